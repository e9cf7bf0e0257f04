/- Contracts: Sees of the program. -/
import Derived.Test.YtbpffadffbgloaaDoorWh
set_option linter.unusedVariables false
set_option linter.unusedSimpArgs false
namespace Go.Proofs.YtbpffadffbgloaaDoor
open Go.RowKit Go.Sym

def seK (b a : Int) (l : List Int) (p : Int) : Nat → Int
  | 0 => 0
  | 1 => 0 + (b + a) * atW l (p + 0)
  | 2 => 0 + (b + a) * atW l (p + 0) + -a * atW l (p + -b)
  | _ => 0 + (b + a) * atW l (p + 0) + -a * atW l (p + -b) + -b * atW l (p + a)
def seesP (b a : Int) (l : List Int) (p : Nat) : Bool := decide (seK b a l (p : Int) 3 ≠ 0)
def seesS (b a : Int) (l : List Int) : Bool := (List.range l.length).any (seesP b a l)
def seesE (b a : Int) (l : List Int) : Int := firstS [chordS b a, wavesS l]
theorem seesS_true {b a : Int} {l : List Int} {p : Nat} (h : p < l.length) (hp : seesP b a l p = true) : seesS b a l = true := List.any_eq_true.2 ⟨p, List.mem_range.2 h, hp⟩
theorem seesS_false {b a : Int} {l : List Int} (h : ∀ p : Nat, p < l.length → seesP b a l p = false) : seesS b a l = false := by
  unfold seesS
  rw [List.any_eq_false]
  intro p hp
  rw [h p (List.mem_range.1 hp)]; decide
theorem atW_bound {l : List Int} (hv : ∀ x ∈ l, -16384 ≤ x ∧ x ≤ 16384) (i : Int) : -16384 ≤ atW l i ∧ atW l i ≤ 16384 := by
  unfold atW
  by_cases h : (i % (l.length : Int)).toNat < l.length
  · rw [List.getD_eq_getElem?_getD, List.getElem?_eq_getElem h]; exact hv _ (List.getElem_mem h)
  · rw [List.getD_eq_getElem?_getD, List.getElem?_eq_none (by omega)]; exact ⟨by decide, by decide⟩
theorem mulL {x y : Int} (h1 : -64 ≤ x) (h2 : x ≤ 64) (h : -16384 ≤ y ∧ y ≤ 16384) : -1048576 ≤ x * y ∧ x * y ≤ 1048576 := by
  have e := Int.natAbs_mul x y
  have e2 := Nat.mul_le_mul (show x.natAbs ≤ 64 by omega) (show y.natAbs ≤ 16384 by omega)
  generalize x * y = c at *
  generalize x.natAbs * y.natAbs = d at *
  omega
def PSees_i (b a : Int) (l : List Int) (σ : Ren) : Inst := { f := 33, hin := [(0, .ro l.length 1 (.ints .i64 l))], args := [.agg [i64 b, i64 a], .sl 0 l.length], hout := [], ret := .tup [bl (if seesE b a l = 0 then seesS b a l else false), i64 (seesE b a l)], σ := σ }
set_option maxRecDepth 20000 in
set_option maxHeartbeats 8000000 in
theorem PSees_s (b a : Int) (l : List Int) (σ : Ren) (hl : l.length ≤ 100000) : (PSees_i b a l σ).ok Tryd.prog := by
  unfold PSees_i Inst.ok; dsimp only; refine spec_of_body (tys := tys) 1 Tryd.func33 (by kernel_rfl) rfl tys_ok rfl (Nat.le_of_ble_eq_true rfl) (fun _ _ h => (by cases h)) fun F hP hm hC => ?_; conv => whnf
  repeat first | refine lwp_seq fun K hK => ?_ | ((with_reducible refine thenS_normal ?_); apply_assumption -exfalso -symm) | refine thenS_exit ?_ | refine thenS_ret ?_ | refine inBlockS_normal ?_ | refine inBlockS_ret ?_ | refine inBlockS_hit rfl ?_ | refine inBlockS_miss rfl ?_ | refine lwp_block ?_ | refine lwp_skip ?_ | refine lwp_exit ?_ | refine lwp_ret ?_ | refine lwp_label ?_ | refine lwp_region hC ⟨[], [], []⟩ (told0 _ _) rfl True.intro ?_
  (refine lwp_drawn hC (by rw [hP]; exact mixed) ⟨[], [], [(1, PCheckChord_i b a), (3, PWave_i l [(0, some 0)]), (5, PFirst_i [chordS b a, wavesS l] [(0, some 3)])]⟩ (told1 _ (by rw [hP]; exact (calls_cons (PCheckChord_s _ _) (calls_cons (PWave_s _ _ hl) (calls_cons (PFirst_s _ _) calls_nil))))) [0, 1, 0, 7, 15, 31, 63] 3 rfl ?_ ?_; rotate_left 1)
  · repeat first | refine lwp_seq fun K hK => ?_ | ((with_reducible refine thenS_normal ?_); apply_assumption -exfalso -symm) | refine thenS_exit ?_ | refine thenS_ret ?_ | refine inBlockS_normal ?_ | refine inBlockS_ret ?_ | refine inBlockS_hit rfl ?_ | refine inBlockS_miss rfl ?_ | refine lwp_block ?_ | refine lwp_skip ?_ | refine lwp_exit ?_ | refine lwp_ret ?_ | refine lwp_label ?_ | refine lwp_region hC ⟨[], [], []⟩ (told0 _ _) rfl True.intro ?_
    (refine lwp_cond hC rfl (by first | exact True.intro | ((try simp only [AllL, All, cd_p, cp_p, cv_p, InK, and_true, true_and]); all_goals ((repeat' (first | refine And.intro ?_ ?_ | intro _)) <;> first | omega | exact True.intro | assumption | (simp; done) | rfl | (simp_all; done) | (simp_all; omega)))) (fun hb => ?_) (fun hb => ?_) <;> (try simp only [decide_eq_true_eq, decide_eq_false_iff_not, Bool.not_eq_true', Bool.not_eq_false', ne_eq, Decidable.not_not] at hb))
    · have hz : ¬ seesE b a l = 0 := hb
      repeat first | refine lwp_seq fun K hK => ?_ | ((with_reducible refine thenS_normal ?_); apply_assumption -exfalso -symm) | refine thenS_exit ?_ | refine thenS_ret ?_ | refine inBlockS_normal ?_ | refine inBlockS_ret ?_ | refine inBlockS_hit rfl ?_ | refine inBlockS_miss rfl ?_ | refine lwp_block ?_ | refine lwp_skip ?_ | refine lwp_exit ?_ | refine lwp_ret ?_ | refine lwp_label ?_ | refine lwp_region hC ⟨[], [], []⟩ (told0 _ _) rfl True.intro ?_ | refine lwp_region hC ⟨[], [], []⟩ (told0 _ _) rfl (by ((try simp only [AllL, All, cd_p, cp_p, cv_p, InK, and_true, true_and]); all_goals ((repeat' (first | refine And.intro ?_ ?_ | intro _)) <;> first | omega | exact True.intro | assumption | (simp; done) | rfl | (simp_all; done) | (simp_all; omega)))) ?_
      rw [if_neg hz]
      unfold seesE
      (refine end_intro (by first | exact .inr rfl | exact .inl rfl) [] rfl ?_)
      ((try simp only [AllL, All, cd_p, cp_p, cv_p, InK, and_true, true_and]); all_goals ((repeat' (first | refine And.intro ?_ ?_ | intro _)) <;> first | omega | exact True.intro | assumption | (simp; done) | rfl | (simp_all; done) | (simp_all; omega)))
    · have hz : seesE b a l = 0 := hb
      clear hb
      have hz2 : chordS b a = 0 ∧ wavesS l = 0 := by
        unfold seesE at hz
        rw [firstS_eq] at hz
        exact ⟨hz _ (by simp), hz _ (by simp)⟩
      have hco := chordS_ok hz2.1
      have hwv := wavesS_ok hz2.2
      have hw1 := hwv.1
      have hw2 := hwv.2.1
      have hat := atW_bound hwv.2.2
      have HAT := Lib.hid hat
      clear hat hwv hl
      repeat first | refine lwp_seq fun K hK => ?_ | ((with_reducible refine thenS_normal ?_); apply_assumption -exfalso -symm) | refine thenS_exit ?_ | refine thenS_ret ?_ | refine inBlockS_normal ?_ | refine inBlockS_ret ?_ | refine inBlockS_hit rfl ?_ | refine inBlockS_miss rfl ?_ | refine lwp_block ?_ | refine lwp_skip ?_ | refine lwp_exit ?_ | refine lwp_ret ?_ | refine lwp_label ?_ | refine lwp_region hC ⟨[], [], []⟩ (told0 _ _) rfl True.intro ?_
      refine lwp_loop (fun p : Nat => ⟨[(26, i64 p), (25, i64 l.length), (8, .fn 85 [] [.ptr 2 0 0 0, .ptr 4 0 0 0]), (2, .ptr 1 0 0 0)], [(4, .blk 3 [i64 l.length]), (2, .blk 24 [.sl 0 l.length]), (1, .blk 34 [i64 b, i64 a]), (0, .ro l.length 1 (.ints .i64 l))], 6⟩) (fun p => p ≤ l.length ∧ ∀ q : Nat, q < p → seesP b a l q = false) (fun p => l.length - p) 0 ⟨?_, sub_intro hm [(0, some 0), (1, some 1), (2, some 2), (4, some 4)] rfl ?_⟩ ?_
      · exact ⟨Nat.zero_le _, fun i hi => absurd hi (Nat.not_lt_zero _)⟩
      · ((try simp only [AllL, All, cd_p, cp_p, cv_p, InK, and_true, true_and]); all_goals ((repeat' (first | refine And.intro ?_ ?_ | intro _)) <;> first | omega | exact True.intro | assumption | (simp; done) | rfl | (simp_all; done) | (simp_all; omega)))
      rintro p ⟨hp, hf⟩
      have HF := Lib.hid hf
      clear hf
      repeat first | refine lwp_seq fun K hK => ?_ | ((with_reducible refine thenS_normal ?_); apply_assumption -exfalso -symm) | refine thenS_exit ?_ | refine thenS_ret ?_ | refine inBlockS_normal ?_ | refine inBlockS_ret ?_ | refine inBlockS_hit rfl ?_ | refine inBlockS_miss rfl ?_ | refine lwp_block ?_ | refine lwp_skip ?_ | refine lwp_exit ?_ | refine lwp_ret ?_ | refine lwp_label ?_ | refine lwp_region hC ⟨[], [], []⟩ (told0 _ _) rfl True.intro ?_
      (refine lwp_cond hC rfl (by first | exact True.intro | ((try simp only [AllL, All, cd_p, cp_p, cv_p, InK, and_true, true_and]); all_goals ((repeat' (first | refine And.intro ?_ ?_ | intro _)) <;> first | omega | exact True.intro | assumption | (simp; done) | rfl | (simp_all; done) | (simp_all; omega)))) (fun hb => ?_) (fun hb => ?_) <;> (try simp only [decide_eq_true_eq, decide_eq_false_iff_not, Bool.not_eq_true', Bool.not_eq_false', ne_eq, Decidable.not_not] at hb))
      · have hp2 : p < l.length := by omega
        have q1 := mulL (x := b + a) (by omega) (by omega) (HAT.out ((p : Int) + 0))
        have q2 := mulL (x := -a) (by omega) (by omega) (HAT.out ((p : Int) + -b))
        have q3 := mulL (x := -b) (by omega) (by omega) (HAT.out ((p : Int) + a))
        repeat first | refine lwp_seq fun K hK => ?_ | ((with_reducible refine thenS_normal ?_); apply_assumption -exfalso -symm) | refine thenS_exit ?_ | refine thenS_ret ?_ | refine inBlockS_normal ?_ | refine inBlockS_ret ?_ | refine inBlockS_hit rfl ?_ | refine inBlockS_miss rfl ?_ | refine lwp_block ?_ | refine lwp_skip ?_ | refine lwp_exit ?_ | refine lwp_ret ?_ | refine lwp_label ?_ | refine lwp_region hC ⟨[], [], []⟩ (told0 _ _) rfl True.intro ?_
        (refine lwp_region hC ⟨[], [], [(1, PTerms_i b a)]⟩ (told1 _ (by rw [hP]; exact (calls_cons (PTerms_s _ _ hco.1.1 hco.1.2 hco.2.1 hco.2.2) calls_nil))) rfl ?_ ?_; rotate_left 1)
        · repeat first | refine lwp_seq fun K hK => ?_ | ((with_reducible refine thenS_normal ?_); apply_assumption -exfalso -symm) | refine thenS_exit ?_ | refine thenS_ret ?_ | refine inBlockS_normal ?_ | refine inBlockS_ret ?_ | refine inBlockS_hit rfl ?_ | refine inBlockS_miss rfl ?_ | refine lwp_block ?_ | refine lwp_skip ?_ | refine lwp_exit ?_ | refine lwp_ret ?_ | refine lwp_label ?_ | refine lwp_region hC ⟨[], [], []⟩ (told0 _ _) rfl True.intro ?_
          refine lwp_loop (fun k : Nat => ⟨[(32, i64 k), (31, i64 3), (30, .sl 6 3), (10, i64 (seK b a l (p : Int) k)), (9, i64 p), (26, i64 p), (25, i64 l.length), (8, .fn 85 [] [.ptr 2 0 0 0, .ptr 4 0 0 0]), (2, .ptr 1 0 0 0)], [(6, .row 127 3 2 (.exp [i64 (b + a), i64 0, i64 (-a), i64 (-b), i64 (-b), i64 a])), (4, .blk 3 [i64 l.length]), (2, .blk 24 [.sl 0 l.length]), (1, .blk 34 [i64 b, i64 a]), (0, .ro l.length 1 (.ints .i64 l))], 7⟩) (fun k => k ≤ 3) (fun k => 3 - k) 0 ⟨?_, sub_intro hm [(0, some 0), (1, some 1), (2, some 2), (4, some 4), (6, some 6)] rfl ?_⟩ ?_
          · omega
          · simp only [All, cd_p, cp_p, cv_p]
            (repeat' refine And.intro ?_ ?_) <;> first | trivial | rfl | omega
          rintro k hk
          obtain rfl | rfl | rfl | rfl : k = 0 ∨ k = 1 ∨ k = 2 ∨ k = 3 := by omega
          · repeat first | refine lwp_seq fun K hK => ?_ | ((with_reducible refine thenS_normal ?_); apply_assumption -exfalso -symm) | refine thenS_exit ?_ | refine thenS_ret ?_ | refine inBlockS_normal ?_ | refine inBlockS_ret ?_ | refine inBlockS_hit rfl ?_ | refine inBlockS_miss rfl ?_ | refine lwp_block ?_ | refine lwp_skip ?_ | refine lwp_exit ?_ | refine lwp_ret ?_ | refine lwp_label ?_ | refine lwp_region hC ⟨[], [], []⟩ (told0 _ _) rfl True.intro ?_
            (refine lwp_cond hC rfl (by first | exact True.intro | ((try simp only [AllL, All, cd_p, cp_p, cv_p, InK, and_true, true_and]); all_goals ((repeat' (first | refine And.intro ?_ ?_ | intro _)) <;> first | omega | exact True.intro | assumption | (simp; done) | rfl | (simp_all; done) | (simp_all; omega)))) (fun hb => ?_) (fun hb => ?_) <;> (try simp only [decide_eq_true_eq, decide_eq_false_iff_not, Bool.not_eq_true', Bool.not_eq_false', ne_eq, Decidable.not_not] at hb))
            · clear hb
              repeat first | refine lwp_seq fun K hK => ?_ | ((with_reducible refine thenS_normal ?_); apply_assumption -exfalso -symm) | refine thenS_exit ?_ | refine thenS_ret ?_ | refine inBlockS_normal ?_ | refine inBlockS_ret ?_ | refine inBlockS_hit rfl ?_ | refine inBlockS_miss rfl ?_ | refine lwp_block ?_ | refine lwp_skip ?_ | refine lwp_exit ?_ | refine lwp_ret ?_ | refine lwp_label ?_ | refine lwp_region hC ⟨[], [], []⟩ (told0 _ _) rfl True.intro ?_ | refine lwp_region hC ⟨[], [], []⟩ (told0 _ _) rfl (by ((try simp only [AllL, All, cd_p, cp_p, cv_p, InK, and_true, true_and]); all_goals ((repeat' (first | refine And.intro ?_ ?_ | intro _)) <;> first | omega | exact True.intro | assumption | (simp; done) | rfl | (simp_all; done) | (simp_all; omega)))) ?_
              (refine lwp_drawn hC (by rw [hP]; exact mixed) ⟨[], [], [(8, PAt_i l ((p : Int) + 0) [(0, some 0), (1, some 2), (2, some 4)])]⟩ (told1 _ (by rw [hP]; exact (calls_cons (PAt_s _ _ _ hw1 (by omega) (by omega) (by omega)) calls_nil))) [0, 0, 2, 0, 0, 0, 32, 112, 248, 510, 1023, 2047] 10 rfl ?_ ?_; rotate_left 1)
              · repeat first | refine lwp_seq fun K hK => ?_ | ((with_reducible refine thenS_normal ?_); apply_assumption -exfalso -symm) | refine thenS_exit ?_ | refine thenS_ret ?_ | refine inBlockS_normal ?_ | refine inBlockS_ret ?_ | refine inBlockS_hit rfl ?_ | refine inBlockS_miss rfl ?_ | refine lwp_block ?_ | refine lwp_skip ?_ | refine lwp_exit ?_ | refine lwp_ret ?_ | refine lwp_label ?_ | refine lwp_region hC ⟨[], [], []⟩ (told0 _ _) rfl True.intro ?_ | refine lwp_region hC ⟨[], [], []⟩ (told0 _ _) rfl (by ((try simp only [AllL, All, cd_p, cp_p, cv_p, InK, and_true, true_and]); all_goals ((repeat' (first | refine And.intro ?_ ?_ | intro _)) <;> first | omega | exact True.intro | assumption | (simp; done) | rfl | (simp_all; done) | (simp_all; omega)))) ?_
                refine thenS_normal ⟨1, ?_, ?_, sub_intro hm [(0, some 0), (1, some 1), (2, some 2), (4, some 4), (6, some 6)] rfl ?_⟩
                · omega
                · omega
                · simp only [All, cd_p, cp_p, cv_p]
                  (repeat' refine And.intro ?_ ?_) <;> first | trivial | rfl | omega
              · simp only [AllL, All, cd_p, cp_p, cv_p, InK, seK]
                (repeat' (first | refine And.intro ?_ ?_ | intro _)) <;> first | omega | trivial | rfl
            · omega
          · repeat first | refine lwp_seq fun K hK => ?_ | ((with_reducible refine thenS_normal ?_); apply_assumption -exfalso -symm) | refine thenS_exit ?_ | refine thenS_ret ?_ | refine inBlockS_normal ?_ | refine inBlockS_ret ?_ | refine inBlockS_hit rfl ?_ | refine inBlockS_miss rfl ?_ | refine lwp_block ?_ | refine lwp_skip ?_ | refine lwp_exit ?_ | refine lwp_ret ?_ | refine lwp_label ?_ | refine lwp_region hC ⟨[], [], []⟩ (told0 _ _) rfl True.intro ?_
            (refine lwp_cond hC rfl (by first | exact True.intro | ((try simp only [AllL, All, cd_p, cp_p, cv_p, InK, and_true, true_and]); all_goals ((repeat' (first | refine And.intro ?_ ?_ | intro _)) <;> first | omega | exact True.intro | assumption | (simp; done) | rfl | (simp_all; done) | (simp_all; omega)))) (fun hb => ?_) (fun hb => ?_) <;> (try simp only [decide_eq_true_eq, decide_eq_false_iff_not, Bool.not_eq_true', Bool.not_eq_false', ne_eq, Decidable.not_not] at hb))
            · clear hb
              repeat first | refine lwp_seq fun K hK => ?_ | ((with_reducible refine thenS_normal ?_); apply_assumption -exfalso -symm) | refine thenS_exit ?_ | refine thenS_ret ?_ | refine inBlockS_normal ?_ | refine inBlockS_ret ?_ | refine inBlockS_hit rfl ?_ | refine inBlockS_miss rfl ?_ | refine lwp_block ?_ | refine lwp_skip ?_ | refine lwp_exit ?_ | refine lwp_ret ?_ | refine lwp_label ?_ | refine lwp_region hC ⟨[], [], []⟩ (told0 _ _) rfl True.intro ?_ | refine lwp_region hC ⟨[], [], []⟩ (told0 _ _) rfl (by ((try simp only [AllL, All, cd_p, cp_p, cv_p, InK, and_true, true_and]); all_goals ((repeat' (first | refine And.intro ?_ ?_ | intro _)) <;> first | omega | exact True.intro | assumption | (simp; done) | rfl | (simp_all; done) | (simp_all; omega)))) ?_
              (refine lwp_drawn hC (by rw [hP]; exact mixed) ⟨[], [], [(8, PAt_i l ((p : Int) + -b) [(0, some 0), (1, some 2), (2, some 4)])]⟩ (told1 _ (by rw [hP]; exact (calls_cons (PAt_s _ _ _ hw1 (by omega) (by omega) (by omega)) calls_nil))) [0, 0, 2, 0, 0, 0, 32, 112, 248, 510, 1023, 2047] 10 rfl ?_ ?_; rotate_left 1)
              · repeat first | refine lwp_seq fun K hK => ?_ | ((with_reducible refine thenS_normal ?_); apply_assumption -exfalso -symm) | refine thenS_exit ?_ | refine thenS_ret ?_ | refine inBlockS_normal ?_ | refine inBlockS_ret ?_ | refine inBlockS_hit rfl ?_ | refine inBlockS_miss rfl ?_ | refine lwp_block ?_ | refine lwp_skip ?_ | refine lwp_exit ?_ | refine lwp_ret ?_ | refine lwp_label ?_ | refine lwp_region hC ⟨[], [], []⟩ (told0 _ _) rfl True.intro ?_ | refine lwp_region hC ⟨[], [], []⟩ (told0 _ _) rfl (by ((try simp only [AllL, All, cd_p, cp_p, cv_p, InK, and_true, true_and]); all_goals ((repeat' (first | refine And.intro ?_ ?_ | intro _)) <;> first | omega | exact True.intro | assumption | (simp; done) | rfl | (simp_all; done) | (simp_all; omega)))) ?_
                refine thenS_normal ⟨2, ?_, ?_, sub_intro hm [(0, some 0), (1, some 1), (2, some 2), (4, some 4), (6, some 6)] rfl ?_⟩
                · omega
                · omega
                · simp only [All, cd_p, cp_p, cv_p]
                  (repeat' refine And.intro ?_ ?_) <;> first | trivial | rfl | omega
              · simp only [AllL, All, cd_p, cp_p, cv_p, InK, seK]
                (repeat' (first | refine And.intro ?_ ?_ | intro _)) <;> first | omega | trivial | rfl
            · omega
          · repeat first | refine lwp_seq fun K hK => ?_ | ((with_reducible refine thenS_normal ?_); apply_assumption -exfalso -symm) | refine thenS_exit ?_ | refine thenS_ret ?_ | refine inBlockS_normal ?_ | refine inBlockS_ret ?_ | refine inBlockS_hit rfl ?_ | refine inBlockS_miss rfl ?_ | refine lwp_block ?_ | refine lwp_skip ?_ | refine lwp_exit ?_ | refine lwp_ret ?_ | refine lwp_label ?_ | refine lwp_region hC ⟨[], [], []⟩ (told0 _ _) rfl True.intro ?_
            (refine lwp_cond hC rfl (by first | exact True.intro | ((try simp only [AllL, All, cd_p, cp_p, cv_p, InK, and_true, true_and]); all_goals ((repeat' (first | refine And.intro ?_ ?_ | intro _)) <;> first | omega | exact True.intro | assumption | (simp; done) | rfl | (simp_all; done) | (simp_all; omega)))) (fun hb => ?_) (fun hb => ?_) <;> (try simp only [decide_eq_true_eq, decide_eq_false_iff_not, Bool.not_eq_true', Bool.not_eq_false', ne_eq, Decidable.not_not] at hb))
            · clear hb
              repeat first | refine lwp_seq fun K hK => ?_ | ((with_reducible refine thenS_normal ?_); apply_assumption -exfalso -symm) | refine thenS_exit ?_ | refine thenS_ret ?_ | refine inBlockS_normal ?_ | refine inBlockS_ret ?_ | refine inBlockS_hit rfl ?_ | refine inBlockS_miss rfl ?_ | refine lwp_block ?_ | refine lwp_skip ?_ | refine lwp_exit ?_ | refine lwp_ret ?_ | refine lwp_label ?_ | refine lwp_region hC ⟨[], [], []⟩ (told0 _ _) rfl True.intro ?_ | refine lwp_region hC ⟨[], [], []⟩ (told0 _ _) rfl (by ((try simp only [AllL, All, cd_p, cp_p, cv_p, InK, and_true, true_and]); all_goals ((repeat' (first | refine And.intro ?_ ?_ | intro _)) <;> first | omega | exact True.intro | assumption | (simp; done) | rfl | (simp_all; done) | (simp_all; omega)))) ?_
              (refine lwp_drawn hC (by rw [hP]; exact mixed) ⟨[], [], [(8, PAt_i l ((p : Int) + a) [(0, some 0), (1, some 2), (2, some 4)])]⟩ (told1 _ (by rw [hP]; exact (calls_cons (PAt_s _ _ _ hw1 (by omega) (by omega) (by omega)) calls_nil))) [0, 0, 2, 0, 0, 0, 32, 112, 248, 510, 1023, 2047] 10 rfl ?_ ?_; rotate_left 1)
              · repeat first | refine lwp_seq fun K hK => ?_ | ((with_reducible refine thenS_normal ?_); apply_assumption -exfalso -symm) | refine thenS_exit ?_ | refine thenS_ret ?_ | refine inBlockS_normal ?_ | refine inBlockS_ret ?_ | refine inBlockS_hit rfl ?_ | refine inBlockS_miss rfl ?_ | refine lwp_block ?_ | refine lwp_skip ?_ | refine lwp_exit ?_ | refine lwp_ret ?_ | refine lwp_label ?_ | refine lwp_region hC ⟨[], [], []⟩ (told0 _ _) rfl True.intro ?_ | refine lwp_region hC ⟨[], [], []⟩ (told0 _ _) rfl (by ((try simp only [AllL, All, cd_p, cp_p, cv_p, InK, and_true, true_and]); all_goals ((repeat' (first | refine And.intro ?_ ?_ | intro _)) <;> first | omega | exact True.intro | assumption | (simp; done) | rfl | (simp_all; done) | (simp_all; omega)))) ?_
                refine thenS_normal ⟨3, ?_, ?_, sub_intro hm [(0, some 0), (1, some 1), (2, some 2), (4, some 4), (6, some 6)] rfl ?_⟩
                · omega
                · omega
                · simp only [All, cd_p, cp_p, cv_p]
                  (repeat' refine And.intro ?_ ?_) <;> first | trivial | rfl | omega
              · simp only [AllL, All, cd_p, cp_p, cv_p, InK, seK]
                (repeat' (first | refine And.intro ?_ ?_ | intro _)) <;> first | omega | trivial | rfl
            · omega
          · repeat first | refine lwp_seq fun K hK => ?_ | ((with_reducible refine thenS_normal ?_); apply_assumption -exfalso -symm) | refine thenS_exit ?_ | refine thenS_ret ?_ | refine inBlockS_normal ?_ | refine inBlockS_ret ?_ | refine inBlockS_hit rfl ?_ | refine inBlockS_miss rfl ?_ | refine lwp_block ?_ | refine lwp_skip ?_ | refine lwp_exit ?_ | refine lwp_ret ?_ | refine lwp_label ?_ | refine lwp_region hC ⟨[], [], []⟩ (told0 _ _) rfl True.intro ?_
            (refine lwp_cond hC rfl (by first | exact True.intro | ((try simp only [AllL, All, cd_p, cp_p, cv_p, InK, and_true, true_and]); all_goals ((repeat' (first | refine And.intro ?_ ?_ | intro _)) <;> first | omega | exact True.intro | assumption | (simp; done) | rfl | (simp_all; done) | (simp_all; omega)))) (fun hb => ?_) (fun hb => ?_) <;> (try simp only [decide_eq_true_eq, decide_eq_false_iff_not, Bool.not_eq_true', Bool.not_eq_false', ne_eq, Decidable.not_not] at hb))
            · omega
            · repeat first | refine lwp_seq fun K hK => ?_ | ((with_reducible refine thenS_normal ?_); apply_assumption -exfalso -symm) | refine thenS_exit ?_ | refine thenS_ret ?_ | refine inBlockS_normal ?_ | refine inBlockS_ret ?_ | refine inBlockS_hit rfl ?_ | refine inBlockS_miss rfl ?_ | refine lwp_block ?_ | refine lwp_skip ?_ | refine lwp_exit ?_ | refine lwp_ret ?_ | refine lwp_label ?_ | refine lwp_region hC ⟨[], [], []⟩ (told0 _ _) rfl True.intro ?_
              (refine lwp_cond hC rfl (by first | exact True.intro | ((try simp only [AllL, All, cd_p, cp_p, cv_p, InK, and_true, true_and]); all_goals ((repeat' (first | refine And.intro ?_ ?_ | intro _)) <;> first | omega | exact True.intro | assumption | (simp; done) | rfl | (simp_all; done) | (simp_all; omega)))) (fun hb => ?_) (fun hb => ?_) <;> (try simp only [decide_eq_true_eq, decide_eq_false_iff_not, Bool.not_eq_true', Bool.not_eq_false', ne_eq, Decidable.not_not] at hb))
              · have hs := seesS_true (b := b) (a := a) hp2 (by unfold seesP; exact decide_eq_true hb)
                repeat first | refine lwp_seq fun K hK => ?_ | ((with_reducible refine thenS_normal ?_); apply_assumption -exfalso -symm) | refine thenS_exit ?_ | refine thenS_ret ?_ | refine inBlockS_normal ?_ | refine inBlockS_ret ?_ | refine inBlockS_hit rfl ?_ | refine inBlockS_miss rfl ?_ | refine lwp_block ?_ | refine lwp_skip ?_ | refine lwp_exit ?_ | refine lwp_ret ?_ | refine lwp_label ?_ | refine lwp_region hC ⟨[], [], []⟩ (told0 _ _) rfl True.intro ?_ | refine lwp_region hC ⟨[], [], []⟩ (told0 _ _) rfl (by ((try simp only [AllL, All, cd_p, cp_p, cv_p, InK, and_true, true_and]); all_goals ((repeat' (first | refine And.intro ?_ ?_ | intro _)) <;> first | omega | exact True.intro | assumption | (simp; done) | rfl | (simp_all; done) | (simp_all; omega)))) ?_
                rw [if_pos hz, hs, hz]
                (refine end_intro (by first | exact .inr rfl | exact .inl rfl) [] rfl ?_)
                ((try simp only [AllL, All, cd_p, cp_p, cv_p, InK, and_true, true_and]); all_goals ((repeat' (first | refine And.intro ?_ ?_ | intro _)) <;> first | omega | exact True.intro | assumption | (simp; done) | rfl | (simp_all; done) | (simp_all; omega)))
              · repeat first | refine lwp_seq fun K hK => ?_ | ((with_reducible refine thenS_normal ?_); apply_assumption -exfalso -symm) | refine thenS_exit ?_ | refine thenS_ret ?_ | refine inBlockS_normal ?_ | refine inBlockS_ret ?_ | refine inBlockS_hit rfl ?_ | refine inBlockS_miss rfl ?_ | refine lwp_block ?_ | refine lwp_skip ?_ | refine lwp_exit ?_ | refine lwp_ret ?_ | refine lwp_label ?_ | refine lwp_region hC ⟨[], [], []⟩ (told0 _ _) rfl True.intro ?_ | refine lwp_region hC ⟨[], [], []⟩ (told0 _ _) rfl (by ((try simp only [AllL, All, cd_p, cp_p, cv_p, InK, and_true, true_and]); all_goals ((repeat' (first | refine And.intro ?_ ?_ | intro _)) <;> first | omega | exact True.intro | assumption | (simp; done) | rfl | (simp_all; done) | (simp_all; omega)))) ?_
                refine thenS_normal ⟨p + 1, ?_, ?_, sub_intro hm [(0, some 0), (1, some 1), (2, some 2), (4, some 4)] rfl ?_⟩
                · refine ⟨hp2, fun q hq => ?_⟩
                  by_cases e : q = p
                  · subst e
                    unfold seesP
                    exact decide_eq_false (by simpa using hb)
                  · exact HF.out q (by omega)
                · omega
                · ((try simp only [AllL, All, cd_p, cp_p, cv_p, InK, and_true, true_and]); all_goals ((repeat' (first | refine And.intro ?_ ?_ | intro _)) <;> first | omega | exact True.intro | assumption | (simp; done) | rfl | (simp_all; done) | (simp_all; omega)))
        · ((try simp only [AllL, All, cd_p, cp_p, cv_p, InK, and_true, true_and]); all_goals ((repeat' (first | refine And.intro ?_ ?_ | intro _)) <;> first | omega | exact True.intro | assumption | (simp; done) | rfl | (simp_all; done) | (simp_all; omega)))
      · obtain rfl : p = l.length := by omega
        have hs := seesS_false HF.out
        repeat first | refine lwp_seq fun K hK => ?_ | ((with_reducible refine thenS_normal ?_); apply_assumption -exfalso -symm) | refine thenS_exit ?_ | refine thenS_ret ?_ | refine inBlockS_normal ?_ | refine inBlockS_ret ?_ | refine inBlockS_hit rfl ?_ | refine inBlockS_miss rfl ?_ | refine lwp_block ?_ | refine lwp_skip ?_ | refine lwp_exit ?_ | refine lwp_ret ?_ | refine lwp_label ?_ | refine lwp_region hC ⟨[], [], []⟩ (told0 _ _) rfl True.intro ?_ | refine lwp_region hC ⟨[], [], []⟩ (told0 _ _) rfl (by ((try simp only [AllL, All, cd_p, cp_p, cv_p, InK, and_true, true_and]); all_goals ((repeat' (first | refine And.intro ?_ ?_ | intro _)) <;> first | omega | exact True.intro | assumption | (simp; done) | rfl | (simp_all; done) | (simp_all; omega)))) ?_
        rw [if_pos hz, hs, hz]
        (refine end_intro (by first | exact .inr rfl | exact .inl rfl) [] rfl ?_)
        ((try simp only [AllL, All, cd_p, cp_p, cv_p, InK, and_true, true_and]); all_goals ((repeat' (first | refine And.intro ?_ ?_ | intro _)) <;> first | omega | exact True.intro | assumption | (simp; done) | rfl | (simp_all; done) | (simp_all; omega)))
  · simp only [AllL, All, cd_p, cp_p, cv_p, InK, List.length_cons, List.length_nil]
    (repeat' refine And.intro ?_ ?_) <;> first | trivial | rfl | omega | simp

end Go.Proofs.YtbpffadffbgloaaDoor
