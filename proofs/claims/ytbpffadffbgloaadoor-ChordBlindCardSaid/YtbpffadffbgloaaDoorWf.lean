/- Contracts: common, Blind. -/
import Derived.Test.YtbpffadffbgloaaDoorWe
import Derived.Test.YtbpffadffbgloaaDoorTa
import Derived.Test.YtbpffadffbgloaaDoorSymV
set_option linter.unusedVariables false
set_option linter.unusedSimpArgs false
namespace Go.Proofs.YtbpffadffbgloaaDoor
open Go.RowKit Go.Sym

/-- The numbers from 2 on that divide all of a list. -/
def comL (l : List Int) (k : Nat) : List Int := ((List.range k).map fun (j : Nat) => (j : Int) + 2).filter fun n => !l.any (divN n)
theorem comL_succ (l : List Int) (k : Nat) : comL l (k + 1) = comL l k ++ (if l.any (divN ((k : Int) + 2)) then [] else [(k : Int) + 2]) := by
  unfold comL
  rw [List.range_succ, List.map_append, List.filter_append]
  cases h : l.any (divN ((k : Int) + 2)) <;> simp [h]
theorem comL_len (l : List Int) (k : Nat) : (comL l k).length ≤ k := by
  have := List.length_filter_le (fun n => !l.any (divN n)) ((List.range k).map fun (j : Nat) => (j : Int) + 2)
  simpa [comL] using this
def commonS (l : List Int) : List Int := comL l (minL l - 1).toNat
def PCommon_i (l : List Int) (σ : Ren) : Inst := { f := 83, hin := [(0, .ro l.length 1 (.ints .i64 l))], args := [.sl 0 l.length], hout := [(1, .row 3 (commonS l).length 1 (.ints .i64 (commonS l)))], ret := .sl 1 (commonS l).length, σ := σ }
set_option maxRecDepth 20000 in
set_option maxHeartbeats 4000000 in
theorem PCommon_s (l : List Int) (σ : Ren) (h : 0 < l.length) (hl : l.length ≤ 1000) (hv : ∀ x ∈ l, 0 ≤ x) (h1 : 1 ≤ minL l) (h2 : minL l ≤ 500) : (PCommon_i l σ).ok Tryd.prog := by
  unfold PCommon_i Inst.ok; dsimp only; refine spec_of_body (tys := tys) 1 Tryd.func83 (by kernel_rfl) rfl tys_ok rfl (Nat.le_of_ble_eq_true rfl) (fun _ _ h => (by cases h)) fun F hP hm hC => ?_; conv => whnf
  repeat first | refine lwp_seq fun K hK => ?_ | ((with_reducible refine thenS_normal ?_); apply_assumption -exfalso -symm) | refine thenS_exit ?_ | refine thenS_ret ?_ | refine inBlockS_normal ?_ | refine inBlockS_ret ?_ | refine inBlockS_hit rfl ?_ | refine inBlockS_miss rfl ?_ | refine lwp_block ?_ | refine lwp_skip ?_ | refine lwp_exit ?_ | refine lwp_ret ?_ | refine lwp_label ?_ | refine lwp_region hC ⟨[], [], []⟩ (told0 _ _) rfl True.intro ?_
  refine lwp_loop (fun k : Nat => ⟨[(4, .ptr 1 0 0 0), (3, .sl 2 (comL l k).length), (0, .sl 0 l.length)], [(1, .blk 3 [i64 ((k : Int) + 2)]), (2, .row 3 (comL l k).length 1 (.ints .i64 (comL l k))), (0, .ro l.length 1 (.ints .i64 l))], 3⟩) (fun k => k ≤ (minL l - 1).toNat) (fun k => (minL l - 1).toNat - k) 0 ⟨?_, sub_intro hm [(0, some 0), (1, some 1), (2, none)] rfl ?_⟩ ?_
  · exact Nat.zero_le _
  · ((try simp only [AllL, All, cd_p, cp_p, cv_p, InK, and_true, true_and]); all_goals ((repeat' (first | refine And.intro ?_ ?_ | intro _)) <;> first | omega | exact True.intro | assumption | (simp; done) | rfl | (simp_all; done) | (simp_all; omega)))
  rintro k hk
  have hlk := comL_len l k
  have hcs := comL_succ l k
  have HCS := Lib.hid hcs
  clear hcs
  repeat first | refine lwp_seq fun K hK => ?_ | ((with_reducible refine thenS_normal ?_); apply_assumption -exfalso -symm) | refine thenS_exit ?_ | refine thenS_ret ?_ | refine inBlockS_normal ?_ | refine inBlockS_ret ?_ | refine inBlockS_hit rfl ?_ | refine inBlockS_miss rfl ?_ | refine lwp_block ?_ | refine lwp_skip ?_ | refine lwp_exit ?_ | refine lwp_ret ?_ | refine lwp_label ?_ | refine lwp_region hC ⟨[], [], []⟩ (told0 _ _) rfl True.intro ?_
  (refine lwp_drawn hC (by rw [hP]; exact mixed) ⟨[], [], [(2, Min_i l [(0, some 0)])]⟩ (told1 _ (by rw [hP]; exact (calls_cons (Min_s _ _ h hl) calls_nil))) [0, 0, 2, 7] 3 rfl ?_ ?_; rotate_left 1)
  · repeat first | refine lwp_seq fun K hK => ?_ | ((with_reducible refine thenS_normal ?_); apply_assumption -exfalso -symm) | refine thenS_exit ?_ | refine thenS_ret ?_ | refine inBlockS_normal ?_ | refine inBlockS_ret ?_ | refine inBlockS_hit rfl ?_ | refine inBlockS_miss rfl ?_ | refine lwp_block ?_ | refine lwp_skip ?_ | refine lwp_exit ?_ | refine lwp_ret ?_ | refine lwp_label ?_ | refine lwp_region hC ⟨[], [], []⟩ (told0 _ _) rfl True.intro ?_
    (refine lwp_cond hC rfl (by first | exact True.intro | ((try simp only [AllL, All, cd_p, cp_p, cv_p, InK, and_true, true_and]); all_goals ((repeat' (first | refine And.intro ?_ ?_ | intro _)) <;> first | omega | exact True.intro | assumption | (simp; done) | rfl | (simp_all; done) | (simp_all; omega)))) (fun hb => ?_) (fun hb => ?_) <;> (try simp only [decide_eq_true_eq, decide_eq_false_iff_not, Bool.not_eq_true', Bool.not_eq_false', ne_eq, Decidable.not_not] at hb))
    · repeat first | refine lwp_seq fun K hK => ?_ | ((with_reducible refine thenS_normal ?_); apply_assumption -exfalso -symm) | refine thenS_exit ?_ | refine thenS_ret ?_ | refine inBlockS_normal ?_ | refine inBlockS_ret ?_ | refine inBlockS_hit rfl ?_ | refine inBlockS_miss rfl ?_ | refine lwp_block ?_ | refine lwp_skip ?_ | refine lwp_exit ?_ | refine lwp_ret ?_ | refine lwp_label ?_ | refine lwp_region hC ⟨[], [], []⟩ (told0 _ _) rfl True.intro ?_
      (refine lwp_region hC ⟨[], [], [(2, Cf_i ((k : Int) + 2) l [(0, some 0), (1, some 1)])]⟩ (told1 _ (by rw [hP]; exact (calls_cons (Cf_s _ _ _ (by omega) (by omega) hl hv) calls_nil))) rfl ?_ ?_; rotate_left 1)
      · repeat first | refine lwp_seq fun K hK => ?_ | ((with_reducible refine thenS_normal ?_); apply_assumption -exfalso -symm) | refine thenS_exit ?_ | refine thenS_ret ?_ | refine inBlockS_normal ?_ | refine inBlockS_ret ?_ | refine inBlockS_hit rfl ?_ | refine inBlockS_miss rfl ?_ | refine lwp_block ?_ | refine lwp_skip ?_ | refine lwp_exit ?_ | refine lwp_ret ?_ | refine lwp_label ?_ | refine lwp_region hC ⟨[], [], []⟩ (told0 _ _) rfl True.intro ?_
        cases ha : l.any (divN ((k : Int) + 2)) with
        | true =>
          have hcs := HCS.out
          rw [if_pos ha, List.append_nil] at hcs
          have HC2 := Lib.hid hcs
          clear hcs HCS
          (refine lwp_cond hC rfl (by first | exact True.intro | ((try simp only [AllL, All, cd_p, cp_p, cv_p, InK, and_true, true_and]); all_goals ((repeat' (first | refine And.intro ?_ ?_ | intro _)) <;> first | omega | exact True.intro | assumption | (simp; done) | rfl | (simp_all; done) | (simp_all; omega)))) (fun hb => ?_) (fun hb => ?_) <;> (try simp only [decide_eq_true_eq, decide_eq_false_iff_not, Bool.not_eq_true', Bool.not_eq_false', ne_eq, Decidable.not_not] at hb))
          · exact absurd hb (by simp)
          · repeat first | refine lwp_seq fun K hK => ?_ | ((with_reducible refine thenS_normal ?_); apply_assumption -exfalso -symm) | refine thenS_exit ?_ | refine thenS_ret ?_ | refine inBlockS_normal ?_ | refine inBlockS_ret ?_ | refine inBlockS_hit rfl ?_ | refine inBlockS_miss rfl ?_ | refine lwp_block ?_ | refine lwp_skip ?_ | refine lwp_exit ?_ | refine lwp_ret ?_ | refine lwp_label ?_ | refine lwp_region hC ⟨[], [], []⟩ (told0 _ _) rfl True.intro ?_ | refine lwp_region hC ⟨[], [], []⟩ (told0 _ _) rfl (by ((try simp only [AllL, All, cd_p, cp_p, cv_p, InK, and_true, true_and]); all_goals ((repeat' (first | refine And.intro ?_ ?_ | intro _)) <;> first | omega | exact True.intro | assumption | (simp; done) | rfl | (simp_all; done) | (simp_all; omega)))) ?_
            refine thenS_normal ⟨k + 1, ?_, ?_, sub_intro hm [(0, some 0), (1, some 3), (2, some 2)] rfl ?_⟩
            · omega
            · omega
            · rw [HC2.out]; ((try simp only [AllL, All, cd_p, cp_p, cv_p, InK, and_true, true_and]); all_goals ((repeat' (first | refine And.intro ?_ ?_ | intro _)) <;> first | omega | exact True.intro | assumption | (simp; done) | rfl | (simp_all; done) | (simp_all; omega)))
        | false =>
          have hcs := HCS.out
          rw [if_neg (by rw [ha]; decide)] at hcs
          have HC2 := Lib.hid hcs
          clear hcs HCS
          (refine lwp_cond hC rfl (by first | exact True.intro | ((try simp only [AllL, All, cd_p, cp_p, cv_p, InK, and_true, true_and]); all_goals ((repeat' (first | refine And.intro ?_ ?_ | intro _)) <;> first | omega | exact True.intro | assumption | (simp; done) | rfl | (simp_all; done) | (simp_all; omega)))) (fun hb => ?_) (fun hb => ?_) <;> (try simp only [decide_eq_true_eq, decide_eq_false_iff_not, Bool.not_eq_true', Bool.not_eq_false', ne_eq, Decidable.not_not] at hb))
          · repeat first | refine lwp_seq fun K hK => ?_ | ((with_reducible refine thenS_normal ?_); apply_assumption -exfalso -symm) | refine thenS_exit ?_ | refine thenS_ret ?_ | refine inBlockS_normal ?_ | refine inBlockS_ret ?_ | refine inBlockS_hit rfl ?_ | refine inBlockS_miss rfl ?_ | refine lwp_block ?_ | refine lwp_skip ?_ | refine lwp_exit ?_ | refine lwp_ret ?_ | refine lwp_label ?_ | refine lwp_region hC ⟨[], [], []⟩ (told0 _ _) rfl True.intro ?_ | refine lwp_region hC ⟨[], [], []⟩ (told0 _ _) rfl (by ((try simp only [AllL, All, cd_p, cp_p, cv_p, InK, and_true, true_and]); all_goals ((repeat' (first | refine And.intro ?_ ?_ | intro _)) <;> first | omega | exact True.intro | assumption | (simp; done) | rfl | (simp_all; done) | (simp_all; omega)))) ?_
            refine thenS_normal ⟨k + 1, ?_, ?_, sub_intro hm [(0, some 0), (1, some 5), (2, some 4)] rfl ?_⟩
            · omega
            · omega
            · rw [HC2.out]; ((try simp only [AllL, All, cd_p, cp_p, cv_p, InK, and_true, true_and]); all_goals ((repeat' (first | refine And.intro ?_ ?_ | intro _)) <;> first | omega | exact True.intro | assumption | (simp; done) | rfl | (simp_all; done) | (simp_all; omega)))
          · exact absurd hb (by simp)
      · ((try simp only [AllL, All, cd_p, cp_p, cv_p, InK, and_true, true_and]); all_goals ((repeat' (first | refine And.intro ?_ ?_ | intro _)) <;> first | omega | exact True.intro | assumption | (simp; done) | rfl | (simp_all; done) | (simp_all; omega)))
    · obtain rfl : k = (minL l - 1).toNat := by omega
      repeat first | refine lwp_seq fun K hK => ?_ | ((with_reducible refine thenS_normal ?_); apply_assumption -exfalso -symm) | refine thenS_exit ?_ | refine thenS_ret ?_ | refine inBlockS_normal ?_ | refine inBlockS_ret ?_ | refine inBlockS_hit rfl ?_ | refine inBlockS_miss rfl ?_ | refine lwp_block ?_ | refine lwp_skip ?_ | refine lwp_exit ?_ | refine lwp_ret ?_ | refine lwp_label ?_ | refine lwp_region hC ⟨[], [], []⟩ (told0 _ _) rfl True.intro ?_
      (refine end_intro (by first | exact .inr rfl | exact .inl rfl) [(1, some 2)] rfl ?_)
      ((try simp only [AllL, All, cd_p, cp_p, cv_p, InK, and_true, true_and]); all_goals ((repeat' (first | refine And.intro ?_ ?_ | intro _)) <;> first | omega | exact True.intro | assumption | (simp; done) | rfl | (simp_all; done) | (simp_all; omega)))
  · ((try simp only [AllL, All, cd_p, cp_p, cv_p, InK, and_true, true_and]); all_goals ((repeat' (first | refine And.intro ?_ ?_ | intro _)) <;> first | omega | exact True.intro | assumption | (simp; done) | rfl | (simp_all; done) | (simp_all; omega)))
def blindS (b a : Int) : List Int := if chordS b a = 0 then commonS [b, a] else []
theorem min2 (b a : Int) (b0 : 1 ≤ b) (b1 : b ≤ 32) (a0 : 1 ≤ a) (a1 : a ≤ 32) : 1 ≤ minL [b, a] ∧ minL [b, a] ≤ 32 := by
  simp only [minL, List.foldl_cons, List.foldl_nil, List.getD_cons_zero]
  split <;> (try split) <;> omega
theorem min4 (b a d e : Int) (b0 : 1 ≤ b) (b1 : b ≤ 32) (a0 : 1 ≤ a) (a1 : a ≤ 32) (d0 : 1 ≤ d) (d1 : d ≤ 32) (e0 : 1 ≤ e) (e1 : e ≤ 32) : 1 ≤ minL [b, a, d, e] ∧ minL [b, a, d, e] ≤ 32 := by
  simp only [minL, List.foldl_cons, List.foldl_nil, List.getD_cons_zero]
  repeat' split
  all_goals omega
theorem commonS_len (l : List Int) (h : minL l ≤ 500) : (commonS l).length ≤ 500 := by
  have := comL_len l (minL l - 1).toNat
  unfold commonS; omega
def PBlind_i (b a : Int) : Inst := { f := 31, hin := [], args := [.agg [i64 b, i64 a]], hout := [(0, .row 3 (blindS b a).length 1 (.ints .i64 (blindS b a)))], ret := .tup [.sl 0 (blindS b a).length, i64 (chordS b a)], σ := [] }
set_option maxRecDepth 20000 in
set_option maxHeartbeats 4000000 in
theorem PBlind_s (b a : Int) : (PBlind_i b a).ok Tryd.prog := by
  by_cases hc : chordS b a = 0
  · have hco := chordS_ok hc
    have hmn := min2 b a hco.1.1 hco.1.2 hco.2.1 hco.2.2
    have hbl : blindS b a = commonS [b, a] := if_pos hc
    unfold PBlind_i Inst.ok; dsimp only; refine spec_of_body (tys := tys) 0 Tryd.func31 (by kernel_rfl) rfl tys_ok rfl (Nat.le_of_ble_eq_true rfl) (fun _ _ h => (by cases h)) fun F hP hm hC => ?_; conv => whnf
    repeat first | refine lwp_seq fun K hK => ?_ | ((with_reducible refine thenS_normal ?_); apply_assumption -exfalso -symm) | refine thenS_exit ?_ | refine thenS_ret ?_ | refine inBlockS_normal ?_ | refine inBlockS_ret ?_ | refine inBlockS_hit rfl ?_ | refine inBlockS_miss rfl ?_ | refine lwp_block ?_ | refine lwp_skip ?_ | refine lwp_exit ?_ | refine lwp_ret ?_ | refine lwp_label ?_ | refine lwp_region hC ⟨[], [], []⟩ (told0 _ _) rfl True.intro ?_
    (refine lwp_region hC ⟨[], [], [(1, PCheckChord_i b a)]⟩ (told1 _ (by rw [hP]; exact (calls_cons (PCheckChord_s _ _) calls_nil))) rfl ?_ ?_; rotate_left 1)
    · repeat first | refine lwp_seq fun K hK => ?_ | ((with_reducible refine thenS_normal ?_); apply_assumption -exfalso -symm) | refine thenS_exit ?_ | refine thenS_ret ?_ | refine inBlockS_normal ?_ | refine inBlockS_ret ?_ | refine inBlockS_hit rfl ?_ | refine inBlockS_miss rfl ?_ | refine lwp_block ?_ | refine lwp_skip ?_ | refine lwp_exit ?_ | refine lwp_ret ?_ | refine lwp_label ?_ | refine lwp_region hC ⟨[], [], []⟩ (told0 _ _) rfl True.intro ?_
      (refine lwp_cond hC rfl (by first | exact True.intro | ((try simp only [AllL, All, cd_p, cp_p, cv_p, InK, and_true, true_and]); all_goals ((repeat' (first | refine And.intro ?_ ?_ | intro _)) <;> first | omega | exact True.intro | assumption | (simp; done) | rfl | (simp_all; done) | (simp_all; omega)))) (fun hb => ?_) (fun hb => ?_) <;> (try simp only [decide_eq_true_eq, decide_eq_false_iff_not, Bool.not_eq_true', Bool.not_eq_false', ne_eq, Decidable.not_not] at hb))
      · exact absurd hc hb
      · clear hb
        repeat first | refine lwp_seq fun K hK => ?_ | ((with_reducible refine thenS_normal ?_); apply_assumption -exfalso -symm) | refine thenS_exit ?_ | refine thenS_ret ?_ | refine inBlockS_normal ?_ | refine inBlockS_ret ?_ | refine inBlockS_hit rfl ?_ | refine inBlockS_miss rfl ?_ | refine lwp_block ?_ | refine lwp_skip ?_ | refine lwp_exit ?_ | refine lwp_ret ?_ | refine lwp_label ?_ | refine lwp_region hC ⟨[], [], []⟩ (told0 _ _) rfl True.intro ?_
        (refine lwp_region hC ⟨[], [], [(5, PCommon_i [b, a] [(0, some 1)])]⟩ (told1 _ (by rw [hP]; exact (calls_cons (PCommon_s _ _ (by simp) (by simp) (by intro x hx; simp only [List.mem_cons, List.not_mem_nil, or_false] at hx; omega) hmn.1 (by omega)) calls_nil))) rfl ?_ ?_; rotate_left 1)
        · repeat first | refine lwp_seq fun K hK => ?_ | ((with_reducible refine thenS_normal ?_); apply_assumption -exfalso -symm) | refine thenS_exit ?_ | refine thenS_ret ?_ | refine inBlockS_normal ?_ | refine inBlockS_ret ?_ | refine inBlockS_hit rfl ?_ | refine inBlockS_miss rfl ?_ | refine lwp_block ?_ | refine lwp_skip ?_ | refine lwp_exit ?_ | refine lwp_ret ?_ | refine lwp_label ?_ | refine lwp_region hC ⟨[], [], []⟩ (told0 _ _) rfl True.intro ?_
          rw [hbl, hc]
          (refine end_intro (by first | exact .inr rfl | exact .inl rfl) [(0, some 2)] rfl ?_)
          ((try simp only [AllL, All, cd_p, cp_p, cv_p, InK, and_true, true_and]); all_goals ((repeat' (first | refine And.intro ?_ ?_ | intro _)) <;> first | omega | exact True.intro | assumption | (simp; done) | rfl | (simp_all; done) | (simp_all; omega)))
        · simp only [AllL, All, cd_p, cp_p, cv_p, InK, List.length_cons, List.length_nil]
          (repeat' refine And.intro ?_ ?_) <;> first | trivial | rfl | omega | simp
    · ((try simp only [AllL, All, cd_p, cp_p, cv_p, InK, and_true, true_and]); all_goals ((repeat' (first | refine And.intro ?_ ?_ | intro _)) <;> first | omega | exact True.intro | assumption | (simp; done) | rfl | (simp_all; done) | (simp_all; omega)))
  · have hbl : blindS b a = [] := if_neg hc
    unfold PBlind_i Inst.ok; dsimp only; refine spec_of_body (tys := tys) 0 Tryd.func31 (by kernel_rfl) rfl tys_ok rfl (Nat.le_of_ble_eq_true rfl) (fun _ _ h => (by cases h)) fun F hP hm hC => ?_; conv => whnf
    repeat first | refine lwp_seq fun K hK => ?_ | ((with_reducible refine thenS_normal ?_); apply_assumption -exfalso -symm) | refine thenS_exit ?_ | refine thenS_ret ?_ | refine inBlockS_normal ?_ | refine inBlockS_ret ?_ | refine inBlockS_hit rfl ?_ | refine inBlockS_miss rfl ?_ | refine lwp_block ?_ | refine lwp_skip ?_ | refine lwp_exit ?_ | refine lwp_ret ?_ | refine lwp_label ?_ | refine lwp_region hC ⟨[], [], []⟩ (told0 _ _) rfl True.intro ?_
    (refine lwp_region hC ⟨[], [], [(1, PCheckChord_i b a)]⟩ (told1 _ (by rw [hP]; exact (calls_cons (PCheckChord_s _ _) calls_nil))) rfl ?_ ?_; rotate_left 1)
    · repeat first | refine lwp_seq fun K hK => ?_ | ((with_reducible refine thenS_normal ?_); apply_assumption -exfalso -symm) | refine thenS_exit ?_ | refine thenS_ret ?_ | refine inBlockS_normal ?_ | refine inBlockS_ret ?_ | refine inBlockS_hit rfl ?_ | refine inBlockS_miss rfl ?_ | refine lwp_block ?_ | refine lwp_skip ?_ | refine lwp_exit ?_ | refine lwp_ret ?_ | refine lwp_label ?_ | refine lwp_region hC ⟨[], [], []⟩ (told0 _ _) rfl True.intro ?_
      (refine lwp_cond hC rfl (by first | exact True.intro | ((try simp only [AllL, All, cd_p, cp_p, cv_p, InK, and_true, true_and]); all_goals ((repeat' (first | refine And.intro ?_ ?_ | intro _)) <;> first | omega | exact True.intro | assumption | (simp; done) | rfl | (simp_all; done) | (simp_all; omega)))) (fun hb => ?_) (fun hb => ?_) <;> (try simp only [decide_eq_true_eq, decide_eq_false_iff_not, Bool.not_eq_true', Bool.not_eq_false', ne_eq, Decidable.not_not] at hb))
      · repeat first | refine lwp_seq fun K hK => ?_ | ((with_reducible refine thenS_normal ?_); apply_assumption -exfalso -symm) | refine thenS_exit ?_ | refine thenS_ret ?_ | refine inBlockS_normal ?_ | refine inBlockS_ret ?_ | refine inBlockS_hit rfl ?_ | refine inBlockS_miss rfl ?_ | refine lwp_block ?_ | refine lwp_skip ?_ | refine lwp_exit ?_ | refine lwp_ret ?_ | refine lwp_label ?_ | refine lwp_region hC ⟨[], [], []⟩ (told0 _ _) rfl True.intro ?_
        rw [hbl]
        (refine end_intro (by first | exact .inr rfl | exact .inl rfl) [(0, none)] rfl ?_)
        ((try simp only [AllL, All, cd_p, cp_p, cv_p, InK, and_true, true_and]); all_goals ((repeat' (first | refine And.intro ?_ ?_ | intro _)) <;> first | omega | exact True.intro | assumption | (simp; done) | rfl | (simp_all; done) | (simp_all; omega)))
      · exact absurd hb hc
    · ((try simp only [AllL, All, cd_p, cp_p, cv_p, InK, and_true, true_and]); all_goals ((repeat' (first | refine And.intro ?_ ?_ | intro _)) <;> first | omega | exact True.intro | assumption | (simp; done) | rfl | (simp_all; done) | (simp_all; omega)))

/-- Two chords compared. -/
def custEq2 : Custom := ⟨fun o l => match o.op, l with
  | .binOp .eql t _ _ _, [.agg [.lit (.int .i64 a), .lit (.int .i64 b)], .agg [.lit (.int .i64 c), .lit (.int .i64 d)]] => match Nat.beq t 34 with
    | true => some (.lit (.bool (decide (a = c) && decide (b = d))))
    | false => none
  | _, _ => none⟩
theorem eqT_chord (a b c d : Int) : eqT Tryd.prog 20 34 (.agg #[.int .i64 a, .int .i64 b]) (.agg #[.int .i64 c, .int .i64 d]) = some (decide (a = c) && decide (b = d)) := by
  have hu : (Tryd.prog.underlying 34) = some (.struct #[⟨"Before", 3, 0, false, "", "", 0⟩, ⟨"After", 3, 1, false, "", "", 8⟩]) := by kernel_rfl
  have hi3 : Tryd.prog.underlying 3 = some (.int .i64) := by kernel_rfl
  have hi : (Tryd.prog.info? 3).map (fun i => i.size) = some 1 := by kernel_rfl
  have hst : Tryd.prog.stoodInHeld 34 = false := by kernel_rfl
  obtain ⟨i, hi1, hi2⟩ := Option.map_eq_some_iff.1 hi
  have hag : isAggD (.int .i64) = false := rfl
  simp only [eqT, hu, hst, eqFs, partV, hi3, hi1, hag]
  have x1 : (a == c) = decide (a = c) := by by_cases h : a = c <;> simp [h]
  have x2 : (b == d) = decide (b = d) := by by_cases h : b = d <;> simp [h]
  simp [x1, x2]
  cases decide (a = c) <;> cases decide (b = d) <;> rfl
theorem custEq2_ok : custEq2.ok Tryd.prog := by
  intro o l r h ρ w e vs hd hv
  dsimp only [custEq2] at h
  split at h
  · rename_i t x y yt a b c d ho
    split at h
    · rename_i ht
      cases Nat.eq_of_beq_eq_true ht
      cases h
      simp only [AV.denL, AV.den, listO, Option.map_some, Option.some.injEq] at hd
      subst hd
      rw [ho] at hv
      simp only [Op.operands, List.map_cons, List.map_nil, List.cons.injEq, and_true] at hv
      obtain ⟨e1, e2⟩ := hv
      refine ⟨_, rfl, ?_⟩
      have hg : Tryd.prog.eqGuardType Tryd.prog.depth 34 = false := by kernel_rfl
      have hb : binV Tryd.prog .eql 34 (.agg #[.int .i64 a, .int .i64 b]) (.agg #[.int .i64 c, .int .i64 d]) = some (.bool (decide (a = c) && decide (b = d))) := by
        simp only [binV, hg, eqT_chord]
      have := binV_run hb x y w
      simp only [execOp, ho, Sem.run_bind, e1, e2] at this ⊢
      rw [this]
      rfl
    · cases h
  · cases h
def bothE (b a d e : Int) : Int := firstS [chordS b a, chordS d e]
def bothS (b a d e : Int) : List Int := if bothE b a d e = 0 then (if b = d ∧ a = e then commonS [b, a] else commonS [b, a, d, e]) else []
def PBoth_i (b a d e : Int) : Inst := { f := 32, hin := [], args := [.agg [i64 b, i64 a], .agg [i64 d, i64 e]], hout := [(0, .row 3 (bothS b a d e).length 1 (.ints .i64 (bothS b a d e)))], ret := .tup [.sl 0 (bothS b a d e).length, i64 (bothE b a d e)], σ := [] }
set_option maxRecDepth 20000 in
set_option maxHeartbeats 4000000 in
theorem PBoth_s (b a d e : Int) : (PBoth_i b a d e).ok Tryd.prog := by
  unfold PBoth_i Inst.ok; dsimp only; refine spec_of_body (tys := tys) 0 Tryd.func32 (by kernel_rfl) rfl tys_ok rfl (Nat.le_of_ble_eq_true rfl) (fun _ _ h => (by cases h)) fun F hP hm hC => ?_; conv => whnf
  repeat first | refine lwp_seq fun K hK => ?_ | ((with_reducible refine thenS_normal ?_); apply_assumption -exfalso -symm) | refine thenS_exit ?_ | refine thenS_ret ?_ | refine inBlockS_normal ?_ | refine inBlockS_ret ?_ | refine inBlockS_hit rfl ?_ | refine inBlockS_miss rfl ?_ | refine lwp_block ?_ | refine lwp_skip ?_ | refine lwp_exit ?_ | refine lwp_ret ?_ | refine lwp_label ?_ | refine lwp_region hC ⟨[], [], []⟩ (told0 _ _) rfl True.intro ?_
  (refine lwp_drawn hC (by rw [hP]; exact mixed) ⟨[], [], [(1, PCheckChord_i b a), (3, PCheckChord_i d e), (5, PFirst_i [chordS b a, chordS d e] [(0, some 2)])]⟩ (told1 _ (by rw [hP]; exact (calls_cons (PCheckChord_s _ _) (calls_cons (PCheckChord_s _ _) (calls_cons (PFirst_s _ _) calls_nil))))) [0, 1, 0, 7, 15, 31, 63] 3 rfl ?_ ?_; rotate_left 1)
  · repeat first | refine lwp_seq fun K hK => ?_ | ((with_reducible refine thenS_normal ?_); apply_assumption -exfalso -symm) | refine thenS_exit ?_ | refine thenS_ret ?_ | refine inBlockS_normal ?_ | refine inBlockS_ret ?_ | refine inBlockS_hit rfl ?_ | refine inBlockS_miss rfl ?_ | refine lwp_block ?_ | refine lwp_skip ?_ | refine lwp_exit ?_ | refine lwp_ret ?_ | refine lwp_label ?_ | refine lwp_region hC ⟨[], [], []⟩ (told0 _ _) rfl True.intro ?_
    (refine lwp_cond hC rfl (by first | exact True.intro | ((try simp only [AllL, All, cd_p, cp_p, cv_p, InK, and_true, true_and]); all_goals ((repeat' (first | refine And.intro ?_ ?_ | intro _)) <;> first | omega | exact True.intro | assumption | (simp; done) | rfl | (simp_all; done) | (simp_all; omega)))) (fun hb => ?_) (fun hb => ?_) <;> (try simp only [decide_eq_true_eq, decide_eq_false_iff_not, Bool.not_eq_true', Bool.not_eq_false', ne_eq, Decidable.not_not] at hb))
    · have hz : bothS b a d e = [] := if_neg hb
      repeat first | refine lwp_seq fun K hK => ?_ | ((with_reducible refine thenS_normal ?_); apply_assumption -exfalso -symm) | refine thenS_exit ?_ | refine thenS_ret ?_ | refine inBlockS_normal ?_ | refine inBlockS_ret ?_ | refine inBlockS_hit rfl ?_ | refine inBlockS_miss rfl ?_ | refine lwp_block ?_ | refine lwp_skip ?_ | refine lwp_exit ?_ | refine lwp_ret ?_ | refine lwp_label ?_ | refine lwp_region hC ⟨[], [], []⟩ (told0 _ _) rfl True.intro ?_
      rw [hz]
      (refine end_intro (by first | exact .inr rfl | exact .inl rfl) [(0, none)] rfl ?_)
      unfold bothE
      ((try simp only [AllL, All, cd_p, cp_p, cv_p, InK, and_true, true_and]); all_goals ((repeat' (first | refine And.intro ?_ ?_ | intro _)) <;> first | omega | exact True.intro | assumption | (simp; done) | rfl | (simp_all; done) | (simp_all; omega)))
    · have hz : bothE b a d e = 0 := hb
      clear hb
      have hz2 : chordS b a = 0 ∧ chordS d e = 0 := by
        unfold bothE at hz
        rw [firstS_eq] at hz
        exact ⟨hz _ (by simp), hz _ (by simp)⟩
      have hco := chordS_ok hz2.1
      have hde := chordS_ok hz2.2
      have hm2 := min2 b a hco.1.1 hco.1.2 hco.2.1 hco.2.2
      have hm4 := min4 b a d e hco.1.1 hco.1.2 hco.2.1 hco.2.2 hde.1.1 hde.1.2 hde.2.1 hde.2.2
      repeat first | refine lwp_seq fun K hK => ?_ | ((with_reducible refine thenS_normal ?_); apply_assumption -exfalso -symm) | refine thenS_exit ?_ | refine thenS_ret ?_ | refine inBlockS_normal ?_ | refine inBlockS_ret ?_ | refine inBlockS_hit rfl ?_ | refine inBlockS_miss rfl ?_ | refine lwp_block ?_ | refine lwp_skip ?_ | refine lwp_exit ?_ | refine lwp_ret ?_ | refine lwp_label ?_ | refine lwp_region hC ⟨[], [], []⟩ (told0 _ _) rfl True.intro ?_
      (refine lwp_region hC ⟨[], [(2, custEq2)], []⟩ ⟨(fun p hp => by rcases List.mem_cons.1 hp with rfl | hp; rw [hP]; exact custEq2_ok; cases hp), (fun _ h => (by cases h))⟩ rfl ?_ ?_; rotate_left 1)
      · repeat first | refine lwp_seq fun K hK => ?_ | ((with_reducible refine thenS_normal ?_); apply_assumption -exfalso -symm) | refine thenS_exit ?_ | refine thenS_ret ?_ | refine inBlockS_normal ?_ | refine inBlockS_ret ?_ | refine inBlockS_hit rfl ?_ | refine inBlockS_miss rfl ?_ | refine lwp_block ?_ | refine lwp_skip ?_ | refine lwp_exit ?_ | refine lwp_ret ?_ | refine lwp_label ?_ | refine lwp_region hC ⟨[], [], []⟩ (told0 _ _) rfl True.intro ?_
        (refine lwp_cond hC rfl (by first | exact True.intro | ((try simp only [AllL, All, cd_p, cp_p, cv_p, InK, and_true, true_and]); all_goals ((repeat' (first | refine And.intro ?_ ?_ | intro _)) <;> first | omega | exact True.intro | assumption | (simp; done) | rfl | (simp_all; done) | (simp_all; omega)))) (fun hb => ?_) (fun hb => ?_) <;> (try simp only [decide_eq_true_eq, decide_eq_false_iff_not, Bool.not_eq_true', Bool.not_eq_false', ne_eq, Decidable.not_not] at hb))
        · have hq : bothS b a d e = commonS [b, a] := by
            unfold bothS
            rw [if_pos hz, if_pos]
            simpa using hb
          clear hb
          repeat first | refine lwp_seq fun K hK => ?_ | ((with_reducible refine thenS_normal ?_); apply_assumption -exfalso -symm) | refine thenS_exit ?_ | refine thenS_ret ?_ | refine inBlockS_normal ?_ | refine inBlockS_ret ?_ | refine inBlockS_hit rfl ?_ | refine inBlockS_miss rfl ?_ | refine lwp_block ?_ | refine lwp_skip ?_ | refine lwp_exit ?_ | refine lwp_ret ?_ | refine lwp_label ?_ | refine lwp_region hC ⟨[], [], []⟩ (told0 _ _) rfl True.intro ?_
          (refine lwp_region hC ⟨[], [], [(5, PCommon_i [b, a] [(0, some 3)])]⟩ (told1 _ (by rw [hP]; exact (calls_cons (PCommon_s _ _ (by simp) (by simp) (by intro x hx; simp only [List.mem_cons, List.not_mem_nil, or_false] at hx; omega) hm2.1 (by omega)) calls_nil))) rfl ?_ ?_; rotate_left 1)
          · repeat first | refine lwp_seq fun K hK => ?_ | ((with_reducible refine thenS_normal ?_); apply_assumption -exfalso -symm) | refine thenS_exit ?_ | refine thenS_ret ?_ | refine inBlockS_normal ?_ | refine inBlockS_ret ?_ | refine inBlockS_hit rfl ?_ | refine inBlockS_miss rfl ?_ | refine lwp_block ?_ | refine lwp_skip ?_ | refine lwp_exit ?_ | refine lwp_ret ?_ | refine lwp_label ?_ | refine lwp_region hC ⟨[], [], []⟩ (told0 _ _) rfl True.intro ?_
            rw [hq, hz]
            (refine end_intro (by first | exact .inr rfl | exact .inl rfl) [(0, some 4)] rfl ?_)
            ((try simp only [AllL, All, cd_p, cp_p, cv_p, InK, and_true, true_and]); all_goals ((repeat' (first | refine And.intro ?_ ?_ | intro _)) <;> first | omega | exact True.intro | assumption | (simp; done) | rfl | (simp_all; done) | (simp_all; omega)))
          · simp only [AllL, All, cd_p, cp_p, cv_p, InK, List.length_cons, List.length_nil]
            (repeat' refine And.intro ?_ ?_) <;> first | trivial | rfl | omega | simp
        · have hq : bothS b a d e = commonS [b, a, d, e] := by
            unfold bothS
            rw [if_pos hz, if_neg]
            simpa using hb
          clear hb
          repeat first | refine lwp_seq fun K hK => ?_ | ((with_reducible refine thenS_normal ?_); apply_assumption -exfalso -symm) | refine thenS_exit ?_ | refine thenS_ret ?_ | refine inBlockS_normal ?_ | refine inBlockS_ret ?_ | refine inBlockS_hit rfl ?_ | refine inBlockS_miss rfl ?_ | refine lwp_block ?_ | refine lwp_skip ?_ | refine lwp_exit ?_ | refine lwp_ret ?_ | refine lwp_label ?_ | refine lwp_region hC ⟨[], [], []⟩ (told0 _ _) rfl True.intro ?_
          (refine lwp_region hC ⟨[], [], [(9, PCommon_i [b, a, d, e] [(0, some 3)])]⟩ (told1 _ (by rw [hP]; exact (calls_cons (PCommon_s _ _ (by simp) (by simp) (by intro x hx; simp only [List.mem_cons, List.not_mem_nil, or_false] at hx; omega) hm4.1 (by omega)) calls_nil))) rfl ?_ ?_; rotate_left 1)
          · repeat first | refine lwp_seq fun K hK => ?_ | ((with_reducible refine thenS_normal ?_); apply_assumption -exfalso -symm) | refine thenS_exit ?_ | refine thenS_ret ?_ | refine inBlockS_normal ?_ | refine inBlockS_ret ?_ | refine inBlockS_hit rfl ?_ | refine inBlockS_miss rfl ?_ | refine lwp_block ?_ | refine lwp_skip ?_ | refine lwp_exit ?_ | refine lwp_ret ?_ | refine lwp_label ?_ | refine lwp_region hC ⟨[], [], []⟩ (told0 _ _) rfl True.intro ?_
            rw [hq, hz]
            (refine end_intro (by first | exact .inr rfl | exact .inl rfl) [(0, some 4)] rfl ?_)
            ((try simp only [AllL, All, cd_p, cp_p, cv_p, InK, and_true, true_and]); all_goals ((repeat' (first | refine And.intro ?_ ?_ | intro _)) <;> first | omega | exact True.intro | assumption | (simp; done) | rfl | (simp_all; done) | (simp_all; omega)))
          · simp only [AllL, All, cd_p, cp_p, cv_p, InK, List.length_cons, List.length_nil]
            (repeat' refine And.intro ?_ ?_) <;> first | trivial | rfl | omega | simp
      · ((try simp only [AllL, All, cd_p, cp_p, cv_p, InK, and_true, true_and]); all_goals ((repeat' (first | refine And.intro ?_ ?_ | intro _)) <;> first | omega | exact True.intro | assumption | (simp; done) | rfl | (simp_all; done) | (simp_all; omega)))
  · simp only [AllL, All, cd_p, cp_p, cv_p, InK, List.length_cons, List.length_nil]
    (repeat' refine And.intro ?_ ?_) <;> first | trivial | rfl | omega | simp

end Go.Proofs.YtbpffadffbgloaaDoor
