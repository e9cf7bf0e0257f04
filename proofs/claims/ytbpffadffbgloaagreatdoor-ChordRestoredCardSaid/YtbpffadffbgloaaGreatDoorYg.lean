/- The law ChordRestored: its run. -/
import Derived.Test.YtbpffadffbgloaaGreatDoorRv
import Derived.Test.YtbpffadffbgloaaGreatDoorYe
import Derived.Test.YtbpffadffbgloaaGreatDoorYf
set_option linter.unusedVariables false
set_option linter.unusedSimpArgs false
namespace Go.Proofs.YtbpffadffbgloaaGreatDoor
open Go.RowKit Go.Sym

def Ints_i (l : List Int) (σ : Ren) : Inst := { f := 11, hin := [(0, .ro l.length 1 (.ints .i64 l))], args := [.sl 0 l.length], hout := [(1, .row 3 l.length 1 (.ints .i64 l))], ret := .sl 1 l.length, σ := σ }
theorem Ints_s (l : List Int) (σ : Ren) (h1 : l.length ≤ 1000000) : (Ints_i l σ).ok Tryz.prog := by
  unfold Ints_i Inst.ok; dsimp only; refine spec_of_body (tys := tys) 1 Tryz.func11 (by kernel_rfl) rfl tys_ok rfl (Nat.le_of_ble_eq_true rfl) (fun _ _ h => (by cases h)) fun F hP hm hC => ?_; conv => whnf
  repeat first | refine lwp_seq fun K hK => ?_ | (refine thenS_normal ?_; apply_assumption -exfalso -symm) | refine thenS_exit ?_ | refine thenS_ret ?_ | refine inBlockS_normal ?_ | refine inBlockS_ret ?_ | refine inBlockS_hit rfl ?_ | refine inBlockS_miss rfl ?_ | refine lwp_block ?_ | refine lwp_skip ?_ | refine lwp_exit ?_ | refine lwp_ret ?_ | refine lwp_label ?_ | refine lwp_region hC ⟨[], [], []⟩ (told0 _ _) rfl True.intro ?_ | refine lwp_region hC ⟨[], [], []⟩ (told0 _ _) rfl (by ((try simp only [AllL, All, cd_p, cp_p, cv_p, InK, and_true, true_and]); all_goals ((repeat' (first | refine And.intro ?_ ?_ | intro _)) <;> first | omega | exact True.intro | assumption | (simp; done) | rfl | (simp_all; done) | (simp_all; omega)))) ?_
  (refine end_intro (by first | exact .inr rfl | exact .inl rfl) [(1, some 2)] rfl ?_)
  ((try simp only [AllL, All, cd_p, cp_p, cv_p, InK, and_true, true_and]); all_goals ((repeat' (first | refine And.intro ?_ ?_ | intro _)) <;> first | omega | exact True.intro | assumption | (simp; done) | rfl | (simp_all; done) | (simp_all; omega)))
theorem restR_len {b a : Int} {t : Tr} {l : List Int} : (restR b a t l).1.vals.length ≤ l.length + t.vals.length ∧ (restR b a t l).1.holes.length ≤ l.length + t.vals.length := by
  unfold restR
  split
  · exact ⟨Nat.zero_le _, Nat.zero_le _⟩
  · rename_i h
    have hl := restL_len b a t l t.vals.length (Decidable.not_not.1 h)
    have ha := addAll_len (restL b a t l t.vals.length).2
    exact ⟨by rw [ha.1]; omega, by have := ha.2; simp only; omega⟩
theorem restRR_len {b a : Int} {t : Tr} {l : List Int} : (restRR b a t l).1.vals.length ≤ l.length + t.vals.length ∧ (restRR b a t l).1.holes.length ≤ l.length + t.vals.length := by
  unfold restRR
  split
  · exact ⟨Nat.zero_le _, Nat.zero_le _⟩
  · exact restR_len
theorem restRR_err {b a : Int} {t : Tr} {l : List Int} (h : (restRR b a t l).2 ≠ 0) : (restRR b a t l).1 = ⟨0, [], []⟩ := by
  unfold restRR at h ⊢
  split
  · rfl
  · rename_i h1
    rw [if_neg h1] at h
    unfold restR at h ⊢
    split
    · rfl
    · rename_i h2; rw [if_neg h2] at h; exact absurd rfl h
theorem restE1_bad {b a : Int} {t : Tr} {l : List Int} (h : ¬ firstS [chordS b a, traceS t] = 0) : restE1 b a t l = firstS [chordS b a, traceS t] := by
  unfold restE1
  by_cases h1 : chordS b a = 0
  · by_cases h2 : traceS t = 0
    · exact absurd (by simp [firstS, h1, h2]) h
    · simp [firstS, h1, h2]
  · simp [firstS, h1]
theorem RestoredS_a {b a : Int} {t : Tr} {l : List Int} (h : ¬ firstS [chordS b a, traceS t] = 0) : RestoredS b a t l = (⟨0, [], []⟩, firstS [chordS b a, traceS t]) := by
  have e := restE1_bad (l := l) h
  unfold RestoredS
  rw [e, if_pos h]
theorem restE1_fine {b a : Int} {t : Tr} {l : List Int} (h : firstS [chordS b a, traceS t] = 0) : restE1 b a t l = if (l.length : Int) ≠ b + a then 2 else 0 := by
  have hc : chordS b a = 0 := by rw [firstS_eq] at h; exact h _ (by simp)
  have ht : traceS t = 0 := by rw [firstS_eq] at h; exact h _ (by simp)
  have hco := chordS_ok hc
  have hw : IntKind.i64.wrap (b + a) = b + a := IntWalk.i64_in _ (by omega)
  unfold restE1
  rw [hw, hc, ht]
  by_cases e : (l.length : Int) ≠ b + a
  · rw [if_pos e, decide_eq_true e]; rfl
  · rw [if_neg e, decide_eq_false e]; rfl
theorem RestoredS_b {b a : Int} {t : Tr} {l : List Int} (h : firstS [chordS b a, traceS t] = 0) (h2 : ¬ endsS b a l = 0) : RestoredS b a t l = (⟨0, [], []⟩, endsS b a l) := by
  have e := restE1_fine (l := l) h
  unfold endsS at h2 ⊢
  unfold RestoredS
  rw [e]
  by_cases e2 : (l.length : Int) ≠ b + a
  · rw [if_pos e2, if_pos e2, if_pos (by decide)]
  · rw [if_neg e2] at h2 ⊢
    rw [if_neg e2, if_neg (by decide), if_pos h2]
theorem RestoredS_c {b a : Int} {t : Tr} {l : List Int} (h : firstS [chordS b a, traceS t] = 0) (h2 : endsS b a l = 0) : RestoredS b a t l = restRR b a t l := by
  have e := restE1_fine (l := l) h
  unfold endsS at h2
  unfold RestoredS restRR
  rw [e]
  by_cases e2 : (l.length : Int) ≠ b + a
  · rw [if_pos e2] at h2; exact absurd h2 (by decide)
  · rw [if_neg e2] at h2 ⊢
    rw [if_neg (by decide), if_neg (by rw [h2]; decide)]
theorem endsS_ok {b a : Int} {l : List Int} (h : endsS b a l = 0) : (l.length : Int) = b + a ∧ ∀ x ∈ l, readingS x = 0 := by
  unfold endsS at h
  by_cases e2 : (l.length : Int) ≠ b + a
  · rw [if_pos e2] at h; exact absurd h (by decide)
  · rw [if_neg e2, firstS_eq] at h
    exact ⟨Decidable.not_not.1 e2, fun x hx => h _ (List.mem_map.2 ⟨x, hx, rfl⟩)⟩
theorem AgainS_bad {b a : Int} {h r : Tr} (e : ¬ firstS [chordS b a, traceS h, traceS r] = 0) : AgainS b a h r = (false, firstS [chordS b a, traceS h, traceS r]) := by unfold AgainS; rw [if_pos e]
theorem AgainS_fine {b a : Int} {h r : Tr} (e : firstS [chordS b a, traceS h, traceS r] = 0) : AgainS b a h r = againR b a h r := by unfold AgainS; rw [if_neg (by rw [e]; decide)]
def tr2A (i : Nat) (s t : Tr) : AV := .agg [i64 s.first, .sl i s.vals.length, .sl (i + 1) s.holes.length, i64 t.first, .sl (i + 2) t.vals.length, .sl (i + 3) t.holes.length]
def LRestored_i (b a : Int) (s t : Tr) (l : List Int) : Inst := { f := 4, gl := powG, hin := [(0, powC), (1, .ro s.vals.length 1 (.ints .i64 s.vals)), (2, .ro s.holes.length 2 (spC s.holes)), (3, .ro t.vals.length 1 (.ints .i64 t.vals)), (4, .ro t.holes.length 2 (spC t.holes)), (5, .ro l.length 1 (.ints .i64 l))], args := [.agg [i64 b, i64 a], tr2A 1 s t, .sl 5 l.length], hout := [], ret := bl true, σ := [] }
set_option maxRecDepth 20000 in
set_option maxHeartbeats 16000000 in
theorem LRestored_s (b a : Int) (s t : Tr) (l : List Int) : (LRestored_i b a s t l).ok Tryz.prog := by
  unfold LRestored_i Inst.ok; dsimp only; refine spec_of_body (tys := tys) 6 Tryz.func4 (by kernel_rfl) rfl tys_ok rfl (Nat.le_of_ble_eq_true rfl) (fun g i h => by simp only [List.mem_cons, List.not_mem_nil, or_false, Prod.mk.injEq] at h; omega) fun F hP hm hC => ?_; conv => whnf
  repeat first | refine lwp_seq fun K hK => ?_ | (refine thenS_normal ?_; apply_assumption -exfalso -symm) | refine thenS_exit ?_ | refine thenS_ret ?_ | refine inBlockS_normal ?_ | refine inBlockS_ret ?_ | refine inBlockS_hit rfl ?_ | refine inBlockS_miss rfl ?_ | refine lwp_block ?_ | refine lwp_skip ?_ | refine lwp_exit ?_ | refine lwp_ret ?_ | refine lwp_label ?_ | refine lwp_region hC ⟨[], [], []⟩ (told0 _ _) rfl True.intro ?_
  cases hsh : shortB s with
  | false =>
    (refine lwp_region hC ⟨[(4, { b := some true }), (5, { g := some false }), (6, { g := some false }), (7, { g := some false }), (8, { g := some false })], [], [(2, Short_i s [(0, some 1), (1, some 2)])]⟩ (told1 _ (by rw [hP]; exact (calls_cons (Short_s _ _) calls_nil))) rfl ?_ ?_; rotate_left 1)
    · repeat first | refine lwp_seq fun K hK => ?_ | (refine thenS_normal ?_; apply_assumption -exfalso -symm) | refine thenS_exit ?_ | refine thenS_ret ?_ | refine inBlockS_normal ?_ | refine inBlockS_ret ?_ | refine inBlockS_hit rfl ?_ | refine inBlockS_miss rfl ?_ | refine lwp_block ?_ | refine lwp_skip ?_ | refine lwp_exit ?_ | refine lwp_ret ?_ | refine lwp_label ?_ | refine lwp_region hC ⟨[], [], []⟩ (told0 _ _) rfl True.intro ?_
      (refine lwp_cond hC rfl (by first | exact True.intro | ((try simp only [AllL, All, cd_p, cp_p, cv_p, InK, and_true, true_and]); all_goals ((repeat' (first | refine And.intro ?_ ?_ | intro _)) <;> first | omega | exact True.intro | assumption | (simp; done) | rfl | (simp_all; done) | (simp_all; omega)))) (fun hb => ?_) (fun hb => ?_) <;> (try simp only [decide_eq_true_eq, decide_eq_false_iff_not, Bool.not_eq_true', Bool.not_eq_false', ne_eq, Decidable.not_not] at hb))
      · repeat first | refine lwp_seq fun K hK => ?_ | (refine thenS_normal ?_; apply_assumption -exfalso -symm) | refine thenS_exit ?_ | refine thenS_ret ?_ | refine inBlockS_normal ?_ | refine inBlockS_ret ?_ | refine inBlockS_hit rfl ?_ | refine inBlockS_miss rfl ?_ | refine lwp_block ?_ | refine lwp_skip ?_ | refine lwp_exit ?_ | refine lwp_ret ?_ | refine lwp_label ?_ | refine lwp_region hC ⟨[], [], []⟩ (told0 _ _) rfl True.intro ?_
        (refine lwp_region hC ⟨[], [], [(0, Awake_i [(0, some 0)])]⟩ (told1 _ (by rw [hP]; exact (calls_cons (Awake_s _) calls_nil))) rfl ?_ ?_; rotate_left 1)
        · repeat first | refine lwp_seq fun K hK => ?_ | (refine thenS_normal ?_; apply_assumption -exfalso -symm) | refine thenS_exit ?_ | refine thenS_ret ?_ | refine inBlockS_normal ?_ | refine inBlockS_ret ?_ | refine inBlockS_hit rfl ?_ | refine inBlockS_miss rfl ?_ | refine lwp_block ?_ | refine lwp_skip ?_ | refine lwp_exit ?_ | refine lwp_ret ?_ | refine lwp_label ?_ | refine lwp_region hC ⟨[], [], []⟩ (told0 _ _) rfl True.intro ?_
          (refine end_intro (by first | exact .inr rfl | exact .inl rfl) [] rfl ?_)
          ((try simp only [AllL, All, cd_p, cp_p, cv_p, InK, and_true, true_and]); all_goals ((repeat' (first | refine And.intro ?_ ?_ | intro _)) <;> first | omega | exact True.intro | assumption | (simp; done) | rfl | (simp_all; done) | (simp_all; omega)))
        · ((try simp only [AllL, All, cd_p, cp_p, cv_p, InK, and_true, true_and]); all_goals ((repeat' (first | refine And.intro ?_ ?_ | intro _)) <;> first | omega | exact True.intro | assumption | (simp; done) | rfl | (simp_all; done) | (simp_all; omega)))
      · exact absurd hb (by simp)
    · simp only [AllL, All, cd_p, cp_p, cv_p, InK, hsh]
      (repeat' (first | refine And.intro ?_ ?_ | intro _)) <;> first | exact True.intro | rfl | omega | (simp; done) | contradiction | (simp_all; done)
  | true =>
    (refine lwp_region hC ⟨[(4, { b := some false })], [], [(2, Short_i s [(0, some 1), (1, some 2)]), (7, Short_i t [(0, some 3), (1, some 4)])]⟩ (told1 _ (by rw [hP]; exact (calls_cons (Short_s _ _) (calls_cons (Short_s _ _) calls_nil)))) rfl ?_ ?_; rotate_left 1)
    · repeat first | refine lwp_seq fun K hK => ?_ | (refine thenS_normal ?_; apply_assumption -exfalso -symm) | refine thenS_exit ?_ | refine thenS_ret ?_ | refine inBlockS_normal ?_ | refine inBlockS_ret ?_ | refine inBlockS_hit rfl ?_ | refine inBlockS_miss rfl ?_ | refine lwp_block ?_ | refine lwp_skip ?_ | refine lwp_exit ?_ | refine lwp_ret ?_ | refine lwp_label ?_ | refine lwp_region hC ⟨[], [], []⟩ (told0 _ _) rfl True.intro ?_
      (refine lwp_cond hC rfl (by first | exact True.intro | ((try simp only [AllL, All, cd_p, cp_p, cv_p, InK, and_true, true_and]); all_goals ((repeat' (first | refine And.intro ?_ ?_ | intro _)) <;> first | omega | exact True.intro | assumption | (simp; done) | rfl | (simp_all; done) | (simp_all; omega)))) (fun hb => ?_) (fun hb => ?_) <;> (try simp only [decide_eq_true_eq, decide_eq_false_iff_not, Bool.not_eq_true', Bool.not_eq_false', ne_eq, Decidable.not_not] at hb))
      · repeat first | refine lwp_seq fun K hK => ?_ | (refine thenS_normal ?_; apply_assumption -exfalso -symm) | refine thenS_exit ?_ | refine thenS_ret ?_ | refine inBlockS_normal ?_ | refine inBlockS_ret ?_ | refine inBlockS_hit rfl ?_ | refine inBlockS_miss rfl ?_ | refine lwp_block ?_ | refine lwp_skip ?_ | refine lwp_exit ?_ | refine lwp_ret ?_ | refine lwp_label ?_ | refine lwp_region hC ⟨[], [], []⟩ (told0 _ _) rfl True.intro ?_
        (refine lwp_region hC ⟨[], [], [(0, Awake_i [(0, some 0)])]⟩ (told1 _ (by rw [hP]; exact (calls_cons (Awake_s _) calls_nil))) rfl ?_ ?_; rotate_left 1)
        · repeat first | refine lwp_seq fun K hK => ?_ | (refine thenS_normal ?_; apply_assumption -exfalso -symm) | refine thenS_exit ?_ | refine thenS_ret ?_ | refine inBlockS_normal ?_ | refine inBlockS_ret ?_ | refine inBlockS_hit rfl ?_ | refine inBlockS_miss rfl ?_ | refine lwp_block ?_ | refine lwp_skip ?_ | refine lwp_exit ?_ | refine lwp_ret ?_ | refine lwp_label ?_ | refine lwp_region hC ⟨[], [], []⟩ (told0 _ _) rfl True.intro ?_
          (refine end_intro (by first | exact .inr rfl | exact .inl rfl) [] rfl ?_)
          ((try simp only [AllL, All, cd_p, cp_p, cv_p, InK, and_true, true_and]); all_goals ((repeat' (first | refine And.intro ?_ ?_ | intro _)) <;> first | omega | exact True.intro | assumption | (simp; done) | rfl | (simp_all; done) | (simp_all; omega)))
        · ((try simp only [AllL, All, cd_p, cp_p, cv_p, InK, and_true, true_and]); all_goals ((repeat' (first | refine And.intro ?_ ?_ | intro _)) <;> first | omega | exact True.intro | assumption | (simp; done) | rfl | (simp_all; done) | (simp_all; omega)))
      · have hs := shortB_ok hsh
        have ht0 : shortB t = true ∧ l.length ≤ 80 := by
          revert hb
          cases shortB t <;> simp <;> omega
        have ht := shortB_ok ht0.1
        have hl := ht0.2
        clear hb
        repeat first | refine lwp_seq fun K hK => ?_ | (refine thenS_normal ?_; apply_assumption -exfalso -symm) | refine thenS_exit ?_ | refine thenS_ret ?_ | refine inBlockS_normal ?_ | refine inBlockS_ret ?_ | refine inBlockS_hit rfl ?_ | refine inBlockS_miss rfl ?_ | refine lwp_block ?_ | refine lwp_skip ?_ | refine lwp_exit ?_ | refine lwp_ret ?_ | refine lwp_label ?_ | refine lwp_region hC ⟨[], [], []⟩ (told0 _ _) rfl True.intro ?_
        (refine lwp_drawn2 hC (by rw [hP]; exact mixed) ⟨[], [], [(3, LOwn_i s [(0, some 1), (1, some 2)]), (5, Ints_i l [(0, some 5)]), (6, PRestored_i b a s l [(0, some 8), (1, some 9), (2, some 10)])]⟩ (told1 _ (by rw [hP]; exact (calls_cons (LOwn_s _ _ (by omega) (by omega)) (calls_cons (Ints_s _ _ (by omega)) (calls_cons (PRestored_s _ _ _ _ _) calls_nil))))) [0, 0, 2, 6, 0, 30, 63, 127, 255, 255, 0, 1535, 4095] 11 512 rfl ?_ ?_; rotate_left 1)
        · repeat first | refine lwp_seq fun K hK => ?_ | (refine thenS_normal ?_; apply_assumption -exfalso -symm) | refine thenS_exit ?_ | refine thenS_ret ?_ | refine inBlockS_normal ?_ | refine inBlockS_ret ?_ | refine inBlockS_hit rfl ?_ | refine inBlockS_miss rfl ?_ | refine lwp_block ?_ | refine lwp_skip ?_ | refine lwp_exit ?_ | refine lwp_ret ?_ | refine lwp_label ?_ | refine lwp_region hC ⟨[], [], []⟩ (told0 _ _) rfl True.intro ?_
          (refine lwp_drawn hC (by rw [hP]; exact mixed) ⟨[], [], [(3, LOwn_i t [(0, some 3), (1, some 4)]), (6, LOwn_i s [(0, some 1), (1, some 2)]), (7, PAgain_i b a t s [(0, some 15), (1, some 16), (2, some 17), (3, some 18)])]⟩ (told1 _ (by rw [hP]; exact (calls_cons (LOwn_s _ _ (by omega) (by omega)) (calls_cons (LOwn_s _ _ (by omega) (by omega)) (calls_cons (PAgain_s _ _ _ _ _) calls_nil))))) [0, 0, 2, 6, 0, 16, 62, 127, 255, 511, 511, 1023, 4095] 12 rfl ?_ ?_; rotate_left 1)
          · repeat first | refine lwp_seq fun K hK => ?_ | (refine thenS_normal ?_; apply_assumption -exfalso -symm) | refine thenS_exit ?_ | refine thenS_ret ?_ | refine inBlockS_normal ?_ | refine inBlockS_ret ?_ | refine inBlockS_hit rfl ?_ | refine inBlockS_miss rfl ?_ | refine lwp_block ?_ | refine lwp_skip ?_ | refine lwp_exit ?_ | refine lwp_ret ?_ | refine lwp_label ?_ | refine lwp_region hC ⟨[], [], []⟩ (told0 _ _) rfl True.intro ?_
            (refine lwp_drawn hC (by rw [hP]; exact mixed) ⟨[], [], [(1, RCheckChord_i b a), (4, RCheckTrace_i s [(0, some 1), (1, some 2)]), (6, LFirst_i [chordS b a, traceS s] [(0, some 19)])]⟩ (told1 _ (by rw [hP]; exact (calls_cons (RCheckChord_s _ _) (calls_cons (RCheckTrace_s _ _ (by omega) (by omega)) (calls_cons (LFirst_s _ _ (by simp)) calls_nil))))) [0, 1, 0, 4, 15, 31, 63, 127] 4 rfl ?_ ?_; rotate_left 1)
            · repeat first | refine lwp_seq fun K hK => ?_ | (refine thenS_normal ?_; apply_assumption -exfalso -symm) | refine thenS_exit ?_ | refine thenS_ret ?_ | refine inBlockS_normal ?_ | refine inBlockS_ret ?_ | refine inBlockS_hit rfl ?_ | refine inBlockS_miss rfl ?_ | refine lwp_block ?_ | refine lwp_skip ?_ | refine lwp_exit ?_ | refine lwp_ret ?_ | refine lwp_label ?_ | refine lwp_region hC ⟨[], [], []⟩ (told0 _ _) rfl True.intro ?_
              (refine lwp_drawn hC (by rw [hP]; exact mixed) ⟨[], [], [(1, RCheckChord_i b a), (4, RCheckTrace_i t [(0, some 3), (1, some 4)]), (7, RCheckTrace_i s [(0, some 1), (1, some 2)]), (9, LFirst_i [chordS b a, traceS t, traceS s] [(0, some 20)])]⟩ (told1 _ (by rw [hP]; exact (calls_cons (RCheckChord_s _ _) (calls_cons (RCheckTrace_s _ _ (by omega) (by omega)) (calls_cons (RCheckTrace_s _ _ (by omega) (by omega)) (calls_cons (LFirst_s _ _ (by simp)) calls_nil)))))) [0, 1, 0, 4, 15, 0, 32, 127, 255, 511, 1023] 7 rfl ?_ ?_; rotate_left 1)
              · repeat first | refine lwp_seq fun K hK => ?_ | (refine thenS_normal ?_; apply_assumption -exfalso -symm) | refine thenS_exit ?_ | refine thenS_ret ?_ | refine inBlockS_normal ?_ | refine inBlockS_ret ?_ | refine inBlockS_hit rfl ?_ | refine inBlockS_miss rfl ?_ | refine lwp_block ?_ | refine lwp_skip ?_ | refine lwp_exit ?_ | refine lwp_ret ?_ | refine lwp_label ?_ | refine lwp_region hC ⟨[], [], []⟩ (told0 _ _) rfl True.intro ?_
                by_cases h1 : firstS [chordS b a, traceS s] = 0
                · have hc0 : chordS b a = 0 := by rw [firstS_eq] at h1; exact h1 _ (by simp)
                  have hs0 : traceS s = 0 := by rw [firstS_eq] at h1; exact h1 _ (by simp)
                  have hco := chordS_ok hc0
                  have hos : ShortOk s := ⟨traceS_ok hs0, by omega⟩
                  by_cases h2 : endsS b a l = 0
                  · have hen := endsS_ok h2
                    by_cases h3 : firstS [chordS b a, traceS t, traceS s] = 0
                    · have hot : ShortOk t := ⟨traceS_ok (by rw [firstS_eq] at h3; exact h3 _ (by simp)), by omega⟩
                      have hos2 := hos
                      have hco2 := hco
                      repeat first | refine lwp_seq fun K hK => ?_ | (refine thenS_normal ?_; apply_assumption -exfalso -symm) | refine thenS_exit ?_ | refine thenS_ret ?_ | refine inBlockS_normal ?_ | refine inBlockS_ret ?_ | refine inBlockS_hit rfl ?_ | refine inBlockS_miss rfl ?_ | refine lwp_block ?_ | refine lwp_skip ?_ | refine lwp_exit ?_ | refine lwp_ret ?_ | refine lwp_label ?_ | refine lwp_region hC ⟨[], [], []⟩ (told0 _ _) rfl True.intro ?_
                      (refine lwp_cond hC rfl (by first | exact True.intro | ((try simp only [AllL, All, cd_p, cp_p, cv_p, InK, and_true, true_and]); all_goals ((repeat' (first | refine And.intro ?_ ?_ | intro _)) <;> first | omega | exact True.intro | assumption | (simp; done) | rfl | (simp_all; done) | (simp_all; omega)))) (fun hb => ?_) (fun hb => ?_) <;> (try simp only [decide_eq_true_eq, decide_eq_false_iff_not, Bool.not_eq_true', Bool.not_eq_false', ne_eq, Decidable.not_not] at hb))
                      rotate_left 1
                      · exact absurd h1 hb
                      clear hb
                      repeat first | refine lwp_seq fun K hK => ?_ | (refine thenS_normal ?_; apply_assumption -exfalso -symm) | refine thenS_exit ?_ | refine thenS_ret ?_ | refine inBlockS_normal ?_ | refine inBlockS_ret ?_ | refine inBlockS_hit rfl ?_ | refine inBlockS_miss rfl ?_ | refine lwp_block ?_ | refine lwp_skip ?_ | refine lwp_exit ?_ | refine lwp_ret ?_ | refine lwp_label ?_ | refine lwp_region hC ⟨[], [], []⟩ (told0 _ _) rfl True.intro ?_
                      (refine lwp_region hC ⟨[], [], [(2, RCheckEnds_i b a l [(0, some 5)])]⟩ (told1 _ (by rw [hP]; exact (calls_cons (RCheckEnds_s _ _ _ _ (by omega) hco.1.1 hco.1.2 hco.2.1 hco.2.2) calls_nil))) rfl ?_ ?_; rotate_left 1)
                      · repeat first | refine lwp_seq fun K hK => ?_ | (refine thenS_normal ?_; apply_assumption -exfalso -symm) | refine thenS_exit ?_ | refine thenS_ret ?_ | refine inBlockS_normal ?_ | refine inBlockS_ret ?_ | refine inBlockS_hit rfl ?_ | refine inBlockS_miss rfl ?_ | refine lwp_block ?_ | refine lwp_skip ?_ | refine lwp_exit ?_ | refine lwp_ret ?_ | refine lwp_label ?_ | refine lwp_region hC ⟨[], [], []⟩ (told0 _ _) rfl True.intro ?_
                        (refine lwp_cond hC rfl (by first | exact True.intro | ((try simp only [AllL, All, cd_p, cp_p, cv_p, InK, and_true, true_and]); all_goals ((repeat' (first | refine And.intro ?_ ?_ | intro _)) <;> first | omega | exact True.intro | assumption | (simp; done) | rfl | (simp_all; done) | (simp_all; omega)))) (fun hb => ?_) (fun hb => ?_) <;> (try simp only [decide_eq_true_eq, decide_eq_false_iff_not, Bool.not_eq_true', Bool.not_eq_false', ne_eq, Decidable.not_not] at hb))
                        rotate_left 1
                        · exact absurd h2 hb
                        clear hb
                        repeat first | refine lwp_seq fun K hK => ?_ | (refine thenS_normal ?_; apply_assumption -exfalso -symm) | refine thenS_exit ?_ | refine thenS_ret ?_ | refine inBlockS_normal ?_ | refine inBlockS_ret ?_ | refine inBlockS_hit rfl ?_ | refine inBlockS_miss rfl ?_ | refine lwp_block ?_ | refine lwp_skip ?_ | refine lwp_exit ?_ | refine lwp_ret ?_ | refine lwp_label ?_ | refine lwp_region hC ⟨[], [], []⟩ (told0 _ _) rfl True.intro ?_
                        (refine lwp_region hC ⟨[], [], [(4, RRestored_i b a s l [(0, some 1), (1, some 2), (2, some 5)])]⟩ (told1 _ (by rw [hP]; exact (calls_cons (RRestored_s _ _ _ _ _ hos hco.1.1 hco.1.2 hco.2.1 hco.2.2 hen.1 hen.2) calls_nil))) rfl ?_ ?_; rotate_left 1)
                        · repeat first | refine lwp_seq fun K hK => ?_ | (refine thenS_normal ?_; apply_assumption -exfalso -symm) | refine thenS_exit ?_ | refine thenS_ret ?_ | refine inBlockS_normal ?_ | refine inBlockS_ret ?_ | refine inBlockS_hit rfl ?_ | refine inBlockS_miss rfl ?_ | refine lwp_block ?_ | refine lwp_skip ?_ | refine lwp_exit ?_ | refine lwp_ret ?_ | refine lwp_label ?_ | refine lwp_region hC ⟨[], [], []⟩ (told0 _ _) rfl True.intro ?_
                          (refine lwp_cond hC rfl (by first | exact True.intro | ((try simp only [AllL, All, cd_p, cp_p, cv_p, InK, and_true, true_and]); all_goals ((repeat' (first | refine And.intro ?_ ?_ | intro _)) <;> first | omega | exact True.intro | assumption | (simp; done) | rfl | (simp_all; done) | (simp_all; omega)))) (fun hb => ?_) (fun hb => ?_) <;> (try simp only [decide_eq_true_eq, decide_eq_false_iff_not, Bool.not_eq_true', Bool.not_eq_false', ne_eq, Decidable.not_not] at hb))
                          rotate_left 1
                          · exact absurd h3 hb
                          clear hb
                          repeat first | refine lwp_seq fun K hK => ?_ | (refine thenS_normal ?_; apply_assumption -exfalso -symm) | refine thenS_exit ?_ | refine thenS_ret ?_ | refine inBlockS_normal ?_ | refine inBlockS_ret ?_ | refine inBlockS_hit rfl ?_ | refine inBlockS_miss rfl ?_ | refine lwp_block ?_ | refine lwp_skip ?_ | refine lwp_exit ?_ | refine lwp_ret ?_ | refine lwp_label ?_ | refine lwp_region hC ⟨[], [], []⟩ (told0 _ _) rfl True.intro ?_
                          (refine lwp_region hC ⟨[], [], [(5, RAgain_i b a t s [(0, some 3), (1, some 4), (2, some 1), (3, some 2)])]⟩ (told1 _ (by rw [hP]; exact (calls_cons (RAgain_s _ _ _ _ _ hot hos2 hco2.1.1 hco2.1.2 hco2.2.1 hco2.2.2) calls_nil))) rfl ?_ ?_; rotate_left 1)
                          · repeat first | refine lwp_seq fun K hK => ?_ | (refine thenS_normal ?_; apply_assumption -exfalso -symm) | refine thenS_exit ?_ | refine thenS_ret ?_ | refine inBlockS_normal ?_ | refine inBlockS_ret ?_ | refine inBlockS_hit rfl ?_ | refine inBlockS_miss rfl ?_ | refine lwp_block ?_ | refine lwp_skip ?_ | refine lwp_exit ?_ | refine lwp_ret ?_ | refine lwp_label ?_ | refine lwp_region hC ⟨[], [], []⟩ (told0 _ _) rfl True.intro ?_
                            have hX := RestoredS_c h1 h2
                            have lX := restRR_len (b := b) (a := a) (t := s) (l := l)
                            have oX : oneB (restRR b a s l).1 (restRR b a s l).2 (restRR b a s l).2 (restRR b a s l).1 = true := oneB_self fun h => restRR_err h
                            rw [hX]
                            generalize restRR b a s l = X at *
                            have hA := AgainS_fine h3
                            have oB : ((AgainS b a t s).1 == (againR b a t s).1) = true := by rw [hA]; exact beq_self_eq_true _
                            have oE : decide ((AgainS b a t s).2 = (againR b a t s).2) = true := by rw [hA]; exact decide_eq_true rfl
                            repeat first | refine lwp_seq fun K hK => ?_ | (refine thenS_normal ?_; apply_assumption -exfalso -symm) | refine thenS_exit ?_ | refine thenS_ret ?_ | refine inBlockS_normal ?_ | refine inBlockS_ret ?_ | refine inBlockS_hit rfl ?_ | refine inBlockS_miss rfl ?_ | refine lwp_block ?_ | refine lwp_skip ?_ | refine lwp_exit ?_ | refine lwp_ret ?_ | refine lwp_label ?_ | refine lwp_region hC ⟨[], [], []⟩ (told0 _ _) rfl True.intro ?_
                            (refine lwp_region hC ⟨[(5, { b := some true }), (10, { b := some true }), (15, { b := some true })], [], [(4, One_i X.1 X.2 X.2 X.1 [(0, some 11), (1, some 12), (2, some 22), (3, some 23)]), (16, Awake_i [(0, some 0)])]⟩ (told1 _ (by rw [hP]; exact (calls_cons (One_s _ _ _ _ _ (by omega) (by omega)) (calls_cons (Awake_s _) calls_nil)))) rfl ?_ ?_; rotate_left 1)
                            · repeat first | refine lwp_seq fun K hK => ?_ | (refine thenS_normal ?_; apply_assumption -exfalso -symm) | refine thenS_exit ?_ | refine thenS_ret ?_ | refine inBlockS_normal ?_ | refine inBlockS_ret ?_ | refine inBlockS_hit rfl ?_ | refine inBlockS_miss rfl ?_ | refine lwp_block ?_ | refine lwp_skip ?_ | refine lwp_exit ?_ | refine lwp_ret ?_ | refine lwp_label ?_ | refine lwp_region hC ⟨[], [], []⟩ (told0 _ _) rfl True.intro ?_
                              (refine end_intro (by first | exact .inr rfl | exact .inl rfl) [] rfl ?_)
                              ((try simp only [AllL, All, cd_p, cp_p, cv_p, InK, and_true, true_and]); all_goals ((repeat' (first | refine And.intro ?_ ?_ | intro _)) <;> first | omega | exact True.intro | assumption | (simp; done) | rfl | (simp_all; done) | (simp_all; omega)))
                            · simp only [AllL, All, cd_p, cp_p, cv_p, InK, List.length_cons, List.length_nil]
                              (repeat' (first | refine And.intro ?_ ?_ | intro _)) <;> first | trivial | rfl | assumption | omega | (exact decide_eq_true (by assumption)) | (exact decide_eq_false (by assumption)) | (simp; done) | (exact decide_eq_true rfl) | (simp only [cond_true, cond_false, Bool.and_true, Bool.true_and, decide_true]; assumption) | (simp [*]; done)
                          · simp only [AllL, All, cd_p, cp_p, cv_p, InK, List.length_cons, List.length_nil]
                            (repeat' (first | refine And.intro ?_ ?_ | intro _)) <;> first | trivial | rfl | assumption | omega | (exact decide_eq_true (by assumption)) | (exact decide_eq_false (by assumption)) | (simp; done) | (exact decide_eq_true rfl) | (simp only [cond_true, cond_false, Bool.and_true, Bool.true_and, decide_true]; assumption) | (simp [*]; done)
                        · simp only [AllL, All, cd_p, cp_p, cv_p, InK, List.length_cons, List.length_nil]
                          (repeat' (first | refine And.intro ?_ ?_ | intro _)) <;> first | trivial | rfl | assumption | omega | (exact decide_eq_true (by assumption)) | (exact decide_eq_false (by assumption)) | (simp; done) | (exact decide_eq_true rfl) | (simp only [cond_true, cond_false, Bool.and_true, Bool.true_and, decide_true]; assumption) | (simp [*]; done)
                      · simp only [AllL, All, cd_p, cp_p, cv_p, InK, List.length_cons, List.length_nil]
                        (repeat' (first | refine And.intro ?_ ?_ | intro _)) <;> first | trivial | rfl | assumption | omega | (exact decide_eq_true (by assumption)) | (exact decide_eq_false (by assumption)) | (simp; done) | (exact decide_eq_true rfl) | (simp only [cond_true, cond_false, Bool.and_true, Bool.true_and, decide_true]; assumption) | (simp [*]; done)
                    · repeat first | refine lwp_seq fun K hK => ?_ | (refine thenS_normal ?_; apply_assumption -exfalso -symm) | refine thenS_exit ?_ | refine thenS_ret ?_ | refine inBlockS_normal ?_ | refine inBlockS_ret ?_ | refine inBlockS_hit rfl ?_ | refine inBlockS_miss rfl ?_ | refine lwp_block ?_ | refine lwp_skip ?_ | refine lwp_exit ?_ | refine lwp_ret ?_ | refine lwp_label ?_ | refine lwp_region hC ⟨[], [], []⟩ (told0 _ _) rfl True.intro ?_
                      (refine lwp_cond hC rfl (by first | exact True.intro | ((try simp only [AllL, All, cd_p, cp_p, cv_p, InK, and_true, true_and]); all_goals ((repeat' (first | refine And.intro ?_ ?_ | intro _)) <;> first | omega | exact True.intro | assumption | (simp; done) | rfl | (simp_all; done) | (simp_all; omega)))) (fun hb => ?_) (fun hb => ?_) <;> (try simp only [decide_eq_true_eq, decide_eq_false_iff_not, Bool.not_eq_true', Bool.not_eq_false', ne_eq, Decidable.not_not] at hb))
                      rotate_left 1
                      · exact absurd h1 hb
                      clear hb
                      repeat first | refine lwp_seq fun K hK => ?_ | (refine thenS_normal ?_; apply_assumption -exfalso -symm) | refine thenS_exit ?_ | refine thenS_ret ?_ | refine inBlockS_normal ?_ | refine inBlockS_ret ?_ | refine inBlockS_hit rfl ?_ | refine inBlockS_miss rfl ?_ | refine lwp_block ?_ | refine lwp_skip ?_ | refine lwp_exit ?_ | refine lwp_ret ?_ | refine lwp_label ?_ | refine lwp_region hC ⟨[], [], []⟩ (told0 _ _) rfl True.intro ?_
                      (refine lwp_region hC ⟨[], [], [(2, RCheckEnds_i b a l [(0, some 5)])]⟩ (told1 _ (by rw [hP]; exact (calls_cons (RCheckEnds_s _ _ _ _ (by omega) hco.1.1 hco.1.2 hco.2.1 hco.2.2) calls_nil))) rfl ?_ ?_; rotate_left 1)
                      · repeat first | refine lwp_seq fun K hK => ?_ | (refine thenS_normal ?_; apply_assumption -exfalso -symm) | refine thenS_exit ?_ | refine thenS_ret ?_ | refine inBlockS_normal ?_ | refine inBlockS_ret ?_ | refine inBlockS_hit rfl ?_ | refine inBlockS_miss rfl ?_ | refine lwp_block ?_ | refine lwp_skip ?_ | refine lwp_exit ?_ | refine lwp_ret ?_ | refine lwp_label ?_ | refine lwp_region hC ⟨[], [], []⟩ (told0 _ _) rfl True.intro ?_
                        (refine lwp_cond hC rfl (by first | exact True.intro | ((try simp only [AllL, All, cd_p, cp_p, cv_p, InK, and_true, true_and]); all_goals ((repeat' (first | refine And.intro ?_ ?_ | intro _)) <;> first | omega | exact True.intro | assumption | (simp; done) | rfl | (simp_all; done) | (simp_all; omega)))) (fun hb => ?_) (fun hb => ?_) <;> (try simp only [decide_eq_true_eq, decide_eq_false_iff_not, Bool.not_eq_true', Bool.not_eq_false', ne_eq, Decidable.not_not] at hb))
                        rotate_left 1
                        · exact absurd h2 hb
                        clear hb
                        repeat first | refine lwp_seq fun K hK => ?_ | (refine thenS_normal ?_; apply_assumption -exfalso -symm) | refine thenS_exit ?_ | refine thenS_ret ?_ | refine inBlockS_normal ?_ | refine inBlockS_ret ?_ | refine inBlockS_hit rfl ?_ | refine inBlockS_miss rfl ?_ | refine lwp_block ?_ | refine lwp_skip ?_ | refine lwp_exit ?_ | refine lwp_ret ?_ | refine lwp_label ?_ | refine lwp_region hC ⟨[], [], []⟩ (told0 _ _) rfl True.intro ?_
                        (refine lwp_region hC ⟨[], [], [(4, RRestored_i b a s l [(0, some 1), (1, some 2), (2, some 5)])]⟩ (told1 _ (by rw [hP]; exact (calls_cons (RRestored_s _ _ _ _ _ hos hco.1.1 hco.1.2 hco.2.1 hco.2.2 hen.1 hen.2) calls_nil))) rfl ?_ ?_; rotate_left 1)
                        · repeat first | refine lwp_seq fun K hK => ?_ | (refine thenS_normal ?_; apply_assumption -exfalso -symm) | refine thenS_exit ?_ | refine thenS_ret ?_ | refine inBlockS_normal ?_ | refine inBlockS_ret ?_ | refine inBlockS_hit rfl ?_ | refine inBlockS_miss rfl ?_ | refine lwp_block ?_ | refine lwp_skip ?_ | refine lwp_exit ?_ | refine lwp_ret ?_ | refine lwp_label ?_ | refine lwp_region hC ⟨[], [], []⟩ (told0 _ _) rfl True.intro ?_
                          (refine lwp_cond hC rfl (by first | exact True.intro | ((try simp only [AllL, All, cd_p, cp_p, cv_p, InK, and_true, true_and]); all_goals ((repeat' (first | refine And.intro ?_ ?_ | intro _)) <;> first | omega | exact True.intro | assumption | (simp; done) | rfl | (simp_all; done) | (simp_all; omega)))) (fun hb => ?_) (fun hb => ?_) <;> (try simp only [decide_eq_true_eq, decide_eq_false_iff_not, Bool.not_eq_true', Bool.not_eq_false', ne_eq, Decidable.not_not] at hb))
                          · exact absurd hb h3
                          clear hb
                          have hX := RestoredS_c h1 h2
                          have lX := restRR_len (b := b) (a := a) (t := s) (l := l)
                          have oX : oneB (restRR b a s l).1 (restRR b a s l).2 (restRR b a s l).2 (restRR b a s l).1 = true := oneB_self fun h => restRR_err h
                          rw [hX]
                          generalize restRR b a s l = X at *
                          have hA := AgainS_bad h3
                          have oB : ((AgainS b a t s).1 == false) = true := by rw [hA]; rfl
                          have oE : decide ((AgainS b a t s).2 = firstS [chordS b a, traceS t, traceS s]) = true := by rw [hA]; exact decide_eq_true rfl
                          repeat first | refine lwp_seq fun K hK => ?_ | (refine thenS_normal ?_; apply_assumption -exfalso -symm) | refine thenS_exit ?_ | refine thenS_ret ?_ | refine inBlockS_normal ?_ | refine inBlockS_ret ?_ | refine inBlockS_hit rfl ?_ | refine inBlockS_miss rfl ?_ | refine lwp_block ?_ | refine lwp_skip ?_ | refine lwp_exit ?_ | refine lwp_ret ?_ | refine lwp_label ?_ | refine lwp_region hC ⟨[], [], []⟩ (told0 _ _) rfl True.intro ?_
                          (refine lwp_region hC ⟨[(5, { b := some true }), (10, { b := some true }), (15, { b := some true })], [], [(4, One_i X.1 X.2 X.2 X.1 [(0, some 11), (1, some 12), (2, some 22), (3, some 23)]), (16, Awake_i [(0, some 0)])]⟩ (told1 _ (by rw [hP]; exact (calls_cons (One_s _ _ _ _ _ (by omega) (by omega)) (calls_cons (Awake_s _) calls_nil)))) rfl ?_ ?_; rotate_left 1)
                          · repeat first | refine lwp_seq fun K hK => ?_ | (refine thenS_normal ?_; apply_assumption -exfalso -symm) | refine thenS_exit ?_ | refine thenS_ret ?_ | refine inBlockS_normal ?_ | refine inBlockS_ret ?_ | refine inBlockS_hit rfl ?_ | refine inBlockS_miss rfl ?_ | refine lwp_block ?_ | refine lwp_skip ?_ | refine lwp_exit ?_ | refine lwp_ret ?_ | refine lwp_label ?_ | refine lwp_region hC ⟨[], [], []⟩ (told0 _ _) rfl True.intro ?_
                            (refine end_intro (by first | exact .inr rfl | exact .inl rfl) [] rfl ?_)
                            ((try simp only [AllL, All, cd_p, cp_p, cv_p, InK, and_true, true_and]); all_goals ((repeat' (first | refine And.intro ?_ ?_ | intro _)) <;> first | omega | exact True.intro | assumption | (simp; done) | rfl | (simp_all; done) | (simp_all; omega)))
                          · simp only [AllL, All, cd_p, cp_p, cv_p, InK, List.length_cons, List.length_nil]
                            (repeat' (first | refine And.intro ?_ ?_ | intro _)) <;> first | trivial | rfl | assumption | omega | (exact decide_eq_true (by assumption)) | (exact decide_eq_false (by assumption)) | (simp; done) | (exact decide_eq_true rfl) | (simp only [cond_true, cond_false, Bool.and_true, Bool.true_and, decide_true]; assumption) | (simp [*]; done)
                        · simp only [AllL, All, cd_p, cp_p, cv_p, InK, List.length_cons, List.length_nil]
                          (repeat' (first | refine And.intro ?_ ?_ | intro _)) <;> first | trivial | rfl | assumption | omega | (exact decide_eq_true (by assumption)) | (exact decide_eq_false (by assumption)) | (simp; done) | (exact decide_eq_true rfl) | (simp only [cond_true, cond_false, Bool.and_true, Bool.true_and, decide_true]; assumption) | (simp [*]; done)
                      · simp only [AllL, All, cd_p, cp_p, cv_p, InK, List.length_cons, List.length_nil]
                        (repeat' (first | refine And.intro ?_ ?_ | intro _)) <;> first | trivial | rfl | assumption | omega | (exact decide_eq_true (by assumption)) | (exact decide_eq_false (by assumption)) | (simp; done) | (exact decide_eq_true rfl) | (simp only [cond_true, cond_false, Bool.and_true, Bool.true_and, decide_true]; assumption) | (simp [*]; done)
                  · by_cases h3 : firstS [chordS b a, traceS t, traceS s] = 0
                    · have hot : ShortOk t := ⟨traceS_ok (by rw [firstS_eq] at h3; exact h3 _ (by simp)), by omega⟩
                      have hos2 := hos
                      have hco2 := hco
                      repeat first | refine lwp_seq fun K hK => ?_ | (refine thenS_normal ?_; apply_assumption -exfalso -symm) | refine thenS_exit ?_ | refine thenS_ret ?_ | refine inBlockS_normal ?_ | refine inBlockS_ret ?_ | refine inBlockS_hit rfl ?_ | refine inBlockS_miss rfl ?_ | refine lwp_block ?_ | refine lwp_skip ?_ | refine lwp_exit ?_ | refine lwp_ret ?_ | refine lwp_label ?_ | refine lwp_region hC ⟨[], [], []⟩ (told0 _ _) rfl True.intro ?_
                      (refine lwp_cond hC rfl (by first | exact True.intro | ((try simp only [AllL, All, cd_p, cp_p, cv_p, InK, and_true, true_and]); all_goals ((repeat' (first | refine And.intro ?_ ?_ | intro _)) <;> first | omega | exact True.intro | assumption | (simp; done) | rfl | (simp_all; done) | (simp_all; omega)))) (fun hb => ?_) (fun hb => ?_) <;> (try simp only [decide_eq_true_eq, decide_eq_false_iff_not, Bool.not_eq_true', Bool.not_eq_false', ne_eq, Decidable.not_not] at hb))
                      rotate_left 1
                      · exact absurd h1 hb
                      clear hb
                      repeat first | refine lwp_seq fun K hK => ?_ | (refine thenS_normal ?_; apply_assumption -exfalso -symm) | refine thenS_exit ?_ | refine thenS_ret ?_ | refine inBlockS_normal ?_ | refine inBlockS_ret ?_ | refine inBlockS_hit rfl ?_ | refine inBlockS_miss rfl ?_ | refine lwp_block ?_ | refine lwp_skip ?_ | refine lwp_exit ?_ | refine lwp_ret ?_ | refine lwp_label ?_ | refine lwp_region hC ⟨[], [], []⟩ (told0 _ _) rfl True.intro ?_
                      (refine lwp_region hC ⟨[], [], [(2, RCheckEnds_i b a l [(0, some 5)])]⟩ (told1 _ (by rw [hP]; exact (calls_cons (RCheckEnds_s _ _ _ _ (by omega) hco.1.1 hco.1.2 hco.2.1 hco.2.2) calls_nil))) rfl ?_ ?_; rotate_left 1)
                      · repeat first | refine lwp_seq fun K hK => ?_ | (refine thenS_normal ?_; apply_assumption -exfalso -symm) | refine thenS_exit ?_ | refine thenS_ret ?_ | refine inBlockS_normal ?_ | refine inBlockS_ret ?_ | refine inBlockS_hit rfl ?_ | refine inBlockS_miss rfl ?_ | refine lwp_block ?_ | refine lwp_skip ?_ | refine lwp_exit ?_ | refine lwp_ret ?_ | refine lwp_label ?_ | refine lwp_region hC ⟨[], [], []⟩ (told0 _ _) rfl True.intro ?_
                        (refine lwp_cond hC rfl (by first | exact True.intro | ((try simp only [AllL, All, cd_p, cp_p, cv_p, InK, and_true, true_and]); all_goals ((repeat' (first | refine And.intro ?_ ?_ | intro _)) <;> first | omega | exact True.intro | assumption | (simp; done) | rfl | (simp_all; done) | (simp_all; omega)))) (fun hb => ?_) (fun hb => ?_) <;> (try simp only [decide_eq_true_eq, decide_eq_false_iff_not, Bool.not_eq_true', Bool.not_eq_false', ne_eq, Decidable.not_not] at hb))
                        · exact absurd hb h2
                        clear hb
                        repeat first | refine lwp_seq fun K hK => ?_ | (refine thenS_normal ?_; apply_assumption -exfalso -symm) | refine thenS_exit ?_ | refine thenS_ret ?_ | refine inBlockS_normal ?_ | refine inBlockS_ret ?_ | refine inBlockS_hit rfl ?_ | refine inBlockS_miss rfl ?_ | refine lwp_block ?_ | refine lwp_skip ?_ | refine lwp_exit ?_ | refine lwp_ret ?_ | refine lwp_label ?_ | refine lwp_region hC ⟨[], [], []⟩ (told0 _ _) rfl True.intro ?_
                        (refine lwp_cond hC rfl (by first | exact True.intro | ((try simp only [AllL, All, cd_p, cp_p, cv_p, InK, and_true, true_and]); all_goals ((repeat' (first | refine And.intro ?_ ?_ | intro _)) <;> first | omega | exact True.intro | assumption | (simp; done) | rfl | (simp_all; done) | (simp_all; omega)))) (fun hb => ?_) (fun hb => ?_) <;> (try simp only [decide_eq_true_eq, decide_eq_false_iff_not, Bool.not_eq_true', Bool.not_eq_false', ne_eq, Decidable.not_not] at hb))
                        rotate_left 1
                        · exact absurd h3 hb
                        clear hb
                        repeat first | refine lwp_seq fun K hK => ?_ | (refine thenS_normal ?_; apply_assumption -exfalso -symm) | refine thenS_exit ?_ | refine thenS_ret ?_ | refine inBlockS_normal ?_ | refine inBlockS_ret ?_ | refine inBlockS_hit rfl ?_ | refine inBlockS_miss rfl ?_ | refine lwp_block ?_ | refine lwp_skip ?_ | refine lwp_exit ?_ | refine lwp_ret ?_ | refine lwp_label ?_ | refine lwp_region hC ⟨[], [], []⟩ (told0 _ _) rfl True.intro ?_
                        (refine lwp_region hC ⟨[], [], [(5, RAgain_i b a t s [(0, some 3), (1, some 4), (2, some 1), (3, some 2)])]⟩ (told1 _ (by rw [hP]; exact (calls_cons (RAgain_s _ _ _ _ _ hot hos2 hco2.1.1 hco2.1.2 hco2.2.1 hco2.2.2) calls_nil))) rfl ?_ ?_; rotate_left 1)
                        · repeat first | refine lwp_seq fun K hK => ?_ | (refine thenS_normal ?_; apply_assumption -exfalso -symm) | refine thenS_exit ?_ | refine thenS_ret ?_ | refine inBlockS_normal ?_ | refine inBlockS_ret ?_ | refine inBlockS_hit rfl ?_ | refine inBlockS_miss rfl ?_ | refine lwp_block ?_ | refine lwp_skip ?_ | refine lwp_exit ?_ | refine lwp_ret ?_ | refine lwp_label ?_ | refine lwp_region hC ⟨[], [], []⟩ (told0 _ _) rfl True.intro ?_
                          have hX := RestoredS_b h1 h2
                          have oX := oneB_err hX h2 (W := ⟨0, [], []⟩)
                          have lX := len_err hX
                          generalize RestoredS b a s l = X at *
                          have hA := AgainS_fine h3
                          have oB : ((AgainS b a t s).1 == (againR b a t s).1) = true := by rw [hA]; exact beq_self_eq_true _
                          have oE : decide ((AgainS b a t s).2 = (againR b a t s).2) = true := by rw [hA]; exact decide_eq_true rfl
                          repeat first | refine lwp_seq fun K hK => ?_ | (refine thenS_normal ?_; apply_assumption -exfalso -symm) | refine thenS_exit ?_ | refine thenS_ret ?_ | refine inBlockS_normal ?_ | refine inBlockS_ret ?_ | refine inBlockS_hit rfl ?_ | refine inBlockS_miss rfl ?_ | refine lwp_block ?_ | refine lwp_skip ?_ | refine lwp_exit ?_ | refine lwp_ret ?_ | refine lwp_label ?_ | refine lwp_region hC ⟨[], [], []⟩ (told0 _ _) rfl True.intro ?_
                          (refine lwp_region hC ⟨[(5, { b := some true }), (10, { b := some true }), (15, { b := some true })], [], [(4, One_i X.1 X.2 (endsS b a l) ⟨0, [], []⟩ [(0, some 11), (1, some 12), (2, none), (3, none)]), (16, Awake_i [(0, some 0)])]⟩ (told1 _ (by rw [hP]; exact (calls_cons (One_s _ _ _ _ _ (by omega) (by omega)) (calls_cons (Awake_s _) calls_nil)))) rfl ?_ ?_; rotate_left 1)
                          · repeat first | refine lwp_seq fun K hK => ?_ | (refine thenS_normal ?_; apply_assumption -exfalso -symm) | refine thenS_exit ?_ | refine thenS_ret ?_ | refine inBlockS_normal ?_ | refine inBlockS_ret ?_ | refine inBlockS_hit rfl ?_ | refine inBlockS_miss rfl ?_ | refine lwp_block ?_ | refine lwp_skip ?_ | refine lwp_exit ?_ | refine lwp_ret ?_ | refine lwp_label ?_ | refine lwp_region hC ⟨[], [], []⟩ (told0 _ _) rfl True.intro ?_
                            (refine end_intro (by first | exact .inr rfl | exact .inl rfl) [] rfl ?_)
                            ((try simp only [AllL, All, cd_p, cp_p, cv_p, InK, and_true, true_and]); all_goals ((repeat' (first | refine And.intro ?_ ?_ | intro _)) <;> first | omega | exact True.intro | assumption | (simp; done) | rfl | (simp_all; done) | (simp_all; omega)))
                          · simp only [AllL, All, cd_p, cp_p, cv_p, InK, List.length_cons, List.length_nil]
                            (repeat' (first | refine And.intro ?_ ?_ | intro _)) <;> first | trivial | rfl | assumption | omega | (exact decide_eq_true (by assumption)) | (exact decide_eq_false (by assumption)) | (simp; done) | (exact decide_eq_true rfl) | (simp only [cond_true, cond_false, Bool.and_true, Bool.true_and, decide_true]; assumption) | (simp [*]; done)
                        · simp only [AllL, All, cd_p, cp_p, cv_p, InK, List.length_cons, List.length_nil]
                          (repeat' (first | refine And.intro ?_ ?_ | intro _)) <;> first | trivial | rfl | assumption | omega | (exact decide_eq_true (by assumption)) | (exact decide_eq_false (by assumption)) | (simp; done) | (exact decide_eq_true rfl) | (simp only [cond_true, cond_false, Bool.and_true, Bool.true_and, decide_true]; assumption) | (simp [*]; done)
                      · simp only [AllL, All, cd_p, cp_p, cv_p, InK, List.length_cons, List.length_nil]
                        (repeat' (first | refine And.intro ?_ ?_ | intro _)) <;> first | trivial | rfl | assumption | omega | (exact decide_eq_true (by assumption)) | (exact decide_eq_false (by assumption)) | (simp; done) | (exact decide_eq_true rfl) | (simp only [cond_true, cond_false, Bool.and_true, Bool.true_and, decide_true]; assumption) | (simp [*]; done)
                    · repeat first | refine lwp_seq fun K hK => ?_ | (refine thenS_normal ?_; apply_assumption -exfalso -symm) | refine thenS_exit ?_ | refine thenS_ret ?_ | refine inBlockS_normal ?_ | refine inBlockS_ret ?_ | refine inBlockS_hit rfl ?_ | refine inBlockS_miss rfl ?_ | refine lwp_block ?_ | refine lwp_skip ?_ | refine lwp_exit ?_ | refine lwp_ret ?_ | refine lwp_label ?_ | refine lwp_region hC ⟨[], [], []⟩ (told0 _ _) rfl True.intro ?_
                      (refine lwp_cond hC rfl (by first | exact True.intro | ((try simp only [AllL, All, cd_p, cp_p, cv_p, InK, and_true, true_and]); all_goals ((repeat' (first | refine And.intro ?_ ?_ | intro _)) <;> first | omega | exact True.intro | assumption | (simp; done) | rfl | (simp_all; done) | (simp_all; omega)))) (fun hb => ?_) (fun hb => ?_) <;> (try simp only [decide_eq_true_eq, decide_eq_false_iff_not, Bool.not_eq_true', Bool.not_eq_false', ne_eq, Decidable.not_not] at hb))
                      rotate_left 1
                      · exact absurd h1 hb
                      clear hb
                      repeat first | refine lwp_seq fun K hK => ?_ | (refine thenS_normal ?_; apply_assumption -exfalso -symm) | refine thenS_exit ?_ | refine thenS_ret ?_ | refine inBlockS_normal ?_ | refine inBlockS_ret ?_ | refine inBlockS_hit rfl ?_ | refine inBlockS_miss rfl ?_ | refine lwp_block ?_ | refine lwp_skip ?_ | refine lwp_exit ?_ | refine lwp_ret ?_ | refine lwp_label ?_ | refine lwp_region hC ⟨[], [], []⟩ (told0 _ _) rfl True.intro ?_
                      (refine lwp_region hC ⟨[], [], [(2, RCheckEnds_i b a l [(0, some 5)])]⟩ (told1 _ (by rw [hP]; exact (calls_cons (RCheckEnds_s _ _ _ _ (by omega) hco.1.1 hco.1.2 hco.2.1 hco.2.2) calls_nil))) rfl ?_ ?_; rotate_left 1)
                      · repeat first | refine lwp_seq fun K hK => ?_ | (refine thenS_normal ?_; apply_assumption -exfalso -symm) | refine thenS_exit ?_ | refine thenS_ret ?_ | refine inBlockS_normal ?_ | refine inBlockS_ret ?_ | refine inBlockS_hit rfl ?_ | refine inBlockS_miss rfl ?_ | refine lwp_block ?_ | refine lwp_skip ?_ | refine lwp_exit ?_ | refine lwp_ret ?_ | refine lwp_label ?_ | refine lwp_region hC ⟨[], [], []⟩ (told0 _ _) rfl True.intro ?_
                        (refine lwp_cond hC rfl (by first | exact True.intro | ((try simp only [AllL, All, cd_p, cp_p, cv_p, InK, and_true, true_and]); all_goals ((repeat' (first | refine And.intro ?_ ?_ | intro _)) <;> first | omega | exact True.intro | assumption | (simp; done) | rfl | (simp_all; done) | (simp_all; omega)))) (fun hb => ?_) (fun hb => ?_) <;> (try simp only [decide_eq_true_eq, decide_eq_false_iff_not, Bool.not_eq_true', Bool.not_eq_false', ne_eq, Decidable.not_not] at hb))
                        · exact absurd hb h2
                        clear hb
                        repeat first | refine lwp_seq fun K hK => ?_ | (refine thenS_normal ?_; apply_assumption -exfalso -symm) | refine thenS_exit ?_ | refine thenS_ret ?_ | refine inBlockS_normal ?_ | refine inBlockS_ret ?_ | refine inBlockS_hit rfl ?_ | refine inBlockS_miss rfl ?_ | refine lwp_block ?_ | refine lwp_skip ?_ | refine lwp_exit ?_ | refine lwp_ret ?_ | refine lwp_label ?_ | refine lwp_region hC ⟨[], [], []⟩ (told0 _ _) rfl True.intro ?_
                        (refine lwp_cond hC rfl (by first | exact True.intro | ((try simp only [AllL, All, cd_p, cp_p, cv_p, InK, and_true, true_and]); all_goals ((repeat' (first | refine And.intro ?_ ?_ | intro _)) <;> first | omega | exact True.intro | assumption | (simp; done) | rfl | (simp_all; done) | (simp_all; omega)))) (fun hb => ?_) (fun hb => ?_) <;> (try simp only [decide_eq_true_eq, decide_eq_false_iff_not, Bool.not_eq_true', Bool.not_eq_false', ne_eq, Decidable.not_not] at hb))
                        · exact absurd hb h3
                        clear hb
                        have hX := RestoredS_b h1 h2
                        have oX := oneB_err hX h2 (W := ⟨0, [], []⟩)
                        have lX := len_err hX
                        generalize RestoredS b a s l = X at *
                        have hA := AgainS_bad h3
                        have oB : ((AgainS b a t s).1 == false) = true := by rw [hA]; rfl
                        have oE : decide ((AgainS b a t s).2 = firstS [chordS b a, traceS t, traceS s]) = true := by rw [hA]; exact decide_eq_true rfl
                        repeat first | refine lwp_seq fun K hK => ?_ | (refine thenS_normal ?_; apply_assumption -exfalso -symm) | refine thenS_exit ?_ | refine thenS_ret ?_ | refine inBlockS_normal ?_ | refine inBlockS_ret ?_ | refine inBlockS_hit rfl ?_ | refine inBlockS_miss rfl ?_ | refine lwp_block ?_ | refine lwp_skip ?_ | refine lwp_exit ?_ | refine lwp_ret ?_ | refine lwp_label ?_ | refine lwp_region hC ⟨[], [], []⟩ (told0 _ _) rfl True.intro ?_
                        (refine lwp_region hC ⟨[(5, { b := some true }), (10, { b := some true }), (15, { b := some true })], [], [(4, One_i X.1 X.2 (endsS b a l) ⟨0, [], []⟩ [(0, some 11), (1, some 12), (2, none), (3, none)]), (16, Awake_i [(0, some 0)])]⟩ (told1 _ (by rw [hP]; exact (calls_cons (One_s _ _ _ _ _ (by omega) (by omega)) (calls_cons (Awake_s _) calls_nil)))) rfl ?_ ?_; rotate_left 1)
                        · repeat first | refine lwp_seq fun K hK => ?_ | (refine thenS_normal ?_; apply_assumption -exfalso -symm) | refine thenS_exit ?_ | refine thenS_ret ?_ | refine inBlockS_normal ?_ | refine inBlockS_ret ?_ | refine inBlockS_hit rfl ?_ | refine inBlockS_miss rfl ?_ | refine lwp_block ?_ | refine lwp_skip ?_ | refine lwp_exit ?_ | refine lwp_ret ?_ | refine lwp_label ?_ | refine lwp_region hC ⟨[], [], []⟩ (told0 _ _) rfl True.intro ?_
                          (refine end_intro (by first | exact .inr rfl | exact .inl rfl) [] rfl ?_)
                          ((try simp only [AllL, All, cd_p, cp_p, cv_p, InK, and_true, true_and]); all_goals ((repeat' (first | refine And.intro ?_ ?_ | intro _)) <;> first | omega | exact True.intro | assumption | (simp; done) | rfl | (simp_all; done) | (simp_all; omega)))
                        · simp only [AllL, All, cd_p, cp_p, cv_p, InK, List.length_cons, List.length_nil]
                          (repeat' (first | refine And.intro ?_ ?_ | intro _)) <;> first | trivial | rfl | assumption | omega | (exact decide_eq_true (by assumption)) | (exact decide_eq_false (by assumption)) | (simp; done) | (exact decide_eq_true rfl) | (simp only [cond_true, cond_false, Bool.and_true, Bool.true_and, decide_true]; assumption) | (simp [*]; done)
                      · simp only [AllL, All, cd_p, cp_p, cv_p, InK, List.length_cons, List.length_nil]
                        (repeat' (first | refine And.intro ?_ ?_ | intro _)) <;> first | trivial | rfl | assumption | omega | (exact decide_eq_true (by assumption)) | (exact decide_eq_false (by assumption)) | (simp; done) | (exact decide_eq_true rfl) | (simp only [cond_true, cond_false, Bool.and_true, Bool.true_and, decide_true]; assumption) | (simp [*]; done)
                · have h3 : ¬ firstS [chordS b a, traceS t, traceS s] = 0 := by
                    intro e
                    rw [firstS_eq] at e
                    apply h1
                    rw [firstS_eq]
                    intro x hx
                    exact e x (by simp only [List.mem_cons, List.not_mem_nil, or_false] at hx ⊢; rcases hx with h | h <;> simp [h])
                  repeat first | refine lwp_seq fun K hK => ?_ | (refine thenS_normal ?_; apply_assumption -exfalso -symm) | refine thenS_exit ?_ | refine thenS_ret ?_ | refine inBlockS_normal ?_ | refine inBlockS_ret ?_ | refine inBlockS_hit rfl ?_ | refine inBlockS_miss rfl ?_ | refine lwp_block ?_ | refine lwp_skip ?_ | refine lwp_exit ?_ | refine lwp_ret ?_ | refine lwp_label ?_ | refine lwp_region hC ⟨[], [], []⟩ (told0 _ _) rfl True.intro ?_
                  (refine lwp_cond hC rfl (by first | exact True.intro | ((try simp only [AllL, All, cd_p, cp_p, cv_p, InK, and_true, true_and]); all_goals ((repeat' (first | refine And.intro ?_ ?_ | intro _)) <;> first | omega | exact True.intro | assumption | (simp; done) | rfl | (simp_all; done) | (simp_all; omega)))) (fun hb => ?_) (fun hb => ?_) <;> (try simp only [decide_eq_true_eq, decide_eq_false_iff_not, Bool.not_eq_true', Bool.not_eq_false', ne_eq, Decidable.not_not] at hb))
                  · exact absurd hb h1
                  clear hb
                  repeat first | refine lwp_seq fun K hK => ?_ | (refine thenS_normal ?_; apply_assumption -exfalso -symm) | refine thenS_exit ?_ | refine thenS_ret ?_ | refine inBlockS_normal ?_ | refine inBlockS_ret ?_ | refine inBlockS_hit rfl ?_ | refine inBlockS_miss rfl ?_ | refine lwp_block ?_ | refine lwp_skip ?_ | refine lwp_exit ?_ | refine lwp_ret ?_ | refine lwp_label ?_ | refine lwp_region hC ⟨[], [], []⟩ (told0 _ _) rfl True.intro ?_
                  (refine lwp_cond hC rfl (by first | exact True.intro | ((try simp only [AllL, All, cd_p, cp_p, cv_p, InK, and_true, true_and]); all_goals ((repeat' (first | refine And.intro ?_ ?_ | intro _)) <;> first | omega | exact True.intro | assumption | (simp; done) | rfl | (simp_all; done) | (simp_all; omega)))) (fun hb => ?_) (fun hb => ?_) <;> (try simp only [decide_eq_true_eq, decide_eq_false_iff_not, Bool.not_eq_true', Bool.not_eq_false', ne_eq, Decidable.not_not] at hb))
                  · exact absurd hb h1
                  clear hb
                  repeat first | refine lwp_seq fun K hK => ?_ | (refine thenS_normal ?_; apply_assumption -exfalso -symm) | refine thenS_exit ?_ | refine thenS_ret ?_ | refine inBlockS_normal ?_ | refine inBlockS_ret ?_ | refine inBlockS_hit rfl ?_ | refine inBlockS_miss rfl ?_ | refine lwp_block ?_ | refine lwp_skip ?_ | refine lwp_exit ?_ | refine lwp_ret ?_ | refine lwp_label ?_ | refine lwp_region hC ⟨[], [], []⟩ (told0 _ _) rfl True.intro ?_
                  (refine lwp_cond hC rfl (by first | exact True.intro | ((try simp only [AllL, All, cd_p, cp_p, cv_p, InK, and_true, true_and]); all_goals ((repeat' (first | refine And.intro ?_ ?_ | intro _)) <;> first | omega | exact True.intro | assumption | (simp; done) | rfl | (simp_all; done) | (simp_all; omega)))) (fun hb => ?_) (fun hb => ?_) <;> (try simp only [decide_eq_true_eq, decide_eq_false_iff_not, Bool.not_eq_true', Bool.not_eq_false', ne_eq, Decidable.not_not] at hb))
                  · exact absurd hb h3
                  clear hb
                  have hX := RestoredS_a (l := l) h1
                  have oX := oneB_err hX h1 (W := ⟨0, [], []⟩)
                  have lX := len_err hX
                  generalize RestoredS b a s l = X at *
                  have hA := AgainS_bad h3
                  have oB : ((AgainS b a t s).1 == false) = true := by rw [hA]; rfl
                  have oE : decide ((AgainS b a t s).2 = firstS [chordS b a, traceS t, traceS s]) = true := by rw [hA]; exact decide_eq_true rfl
                  repeat first | refine lwp_seq fun K hK => ?_ | (refine thenS_normal ?_; apply_assumption -exfalso -symm) | refine thenS_exit ?_ | refine thenS_ret ?_ | refine inBlockS_normal ?_ | refine inBlockS_ret ?_ | refine inBlockS_hit rfl ?_ | refine inBlockS_miss rfl ?_ | refine lwp_block ?_ | refine lwp_skip ?_ | refine lwp_exit ?_ | refine lwp_ret ?_ | refine lwp_label ?_ | refine lwp_region hC ⟨[], [], []⟩ (told0 _ _) rfl True.intro ?_
                  (refine lwp_region hC ⟨[(5, { b := some true }), (10, { b := some true }), (15, { b := some true })], [], [(4, One_i X.1 X.2 (firstS [chordS b a, traceS s]) ⟨0, [], []⟩ [(0, some 11), (1, some 12), (2, none), (3, none)]), (16, Awake_i [(0, some 0)])]⟩ (told1 _ (by rw [hP]; exact (calls_cons (One_s _ _ _ _ _ (by omega) (by omega)) (calls_cons (Awake_s _) calls_nil)))) rfl ?_ ?_; rotate_left 1)
                  · repeat first | refine lwp_seq fun K hK => ?_ | (refine thenS_normal ?_; apply_assumption -exfalso -symm) | refine thenS_exit ?_ | refine thenS_ret ?_ | refine inBlockS_normal ?_ | refine inBlockS_ret ?_ | refine inBlockS_hit rfl ?_ | refine inBlockS_miss rfl ?_ | refine lwp_block ?_ | refine lwp_skip ?_ | refine lwp_exit ?_ | refine lwp_ret ?_ | refine lwp_label ?_ | refine lwp_region hC ⟨[], [], []⟩ (told0 _ _) rfl True.intro ?_
                    (refine end_intro (by first | exact .inr rfl | exact .inl rfl) [] rfl ?_)
                    ((try simp only [AllL, All, cd_p, cp_p, cv_p, InK, and_true, true_and]); all_goals ((repeat' (first | refine And.intro ?_ ?_ | intro _)) <;> first | omega | exact True.intro | assumption | (simp; done) | rfl | (simp_all; done) | (simp_all; omega)))
                  · simp only [AllL, All, cd_p, cp_p, cv_p, InK, List.length_cons, List.length_nil]
                    (repeat' (first | refine And.intro ?_ ?_ | intro _)) <;> first | trivial | rfl | assumption | omega | (exact decide_eq_true (by assumption)) | (exact decide_eq_false (by assumption)) | (simp; done) | (exact decide_eq_true rfl) | (simp only [cond_true, cond_false, Bool.and_true, Bool.true_and, decide_true]; assumption) | (simp [*]; done)
              · simp only [AllL, All, cd_p, cp_p, cv_p, InK, List.length_cons, List.length_nil]
                (repeat' (first | refine And.intro ?_ ?_ | intro _)) <;> first | trivial | rfl | assumption | omega | (exact decide_eq_true (by assumption)) | (exact decide_eq_false (by assumption)) | (simp; done) | (exact decide_eq_true rfl) | (simp only [cond_true, cond_false, Bool.and_true, Bool.true_and, decide_true]; assumption) | (simp [*]; done)
            · simp only [AllL, All, cd_p, cp_p, cv_p, InK, List.length_cons, List.length_nil]
              (repeat' (first | refine And.intro ?_ ?_ | intro _)) <;> first | trivial | rfl | assumption | omega | (exact decide_eq_true (by assumption)) | (exact decide_eq_false (by assumption)) | (simp; done) | (exact decide_eq_true rfl) | (simp only [cond_true, cond_false, Bool.and_true, Bool.true_and, decide_true]; assumption) | (simp [*]; done)
          · ((try simp only [AllL, All, cd_p, cp_p, cv_p, InK, and_true, true_and]); all_goals ((repeat' (first | refine And.intro ?_ ?_ | intro _)) <;> first | omega | exact True.intro | assumption | (simp; done) | rfl | (simp_all; done) | (simp_all; omega)))
        · ((try simp only [AllL, All, cd_p, cp_p, cv_p, InK, and_true, true_and]); all_goals ((repeat' (first | refine And.intro ?_ ?_ | intro _)) <;> first | omega | exact True.intro | assumption | (simp; done) | rfl | (simp_all; done) | (simp_all; omega)))
    · simp only [AllL, All, cd_p, cp_p, cv_p, InK, hsh]
      (repeat' (first | refine And.intro ?_ ?_ | intro _)) <;> first | exact True.intro | rfl | omega | (simp; done) | contradiction | (simp_all; done)

end Go.Proofs.YtbpffadffbgloaaGreatDoor
