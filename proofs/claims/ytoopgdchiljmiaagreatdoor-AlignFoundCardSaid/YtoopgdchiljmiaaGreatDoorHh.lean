/- Chapter 5: readings of a run: samples, and whether they are known. -/
import Derived.Test.YtoopgdchiljmiaaGreatDoorHg
set_option linter.unusedVariables false
set_option linter.unusedSimpArgs false
namespace Go.Proofs.YtoopgdchiljmiaaGreatDoor
open Go.RowKit Go.Sym

def rdV (p : Nat × Bool) : List Value := [.float .f32 p.1, .bool p.2]
def rdC (l : List (Nat × Bool)) : Cont := genL rdV (0, false) 2 l
theorem rdC_snoc (l : List (Nat × Bool)) (x : Nat × Bool) : (rdC (l ++ [x])).cells = (rdC l).cells ++ [.lit (.float .f32 x.1), .lit (.bool x.2)] := genL_snoc (f := rdV) (fun _ => rfl) l x
/-- The readings of a run of which the holes in a list are known, and a piece of a further one. -/
def readJ (l : List Nat) (hs : List (Int × Int)) (a b : Int) : List (Nat × Bool) := (List.range l.length).map fun (i : Nat) => if knownB hs i = true ∧ ¬ (a ≤ (i : Int) ∧ (i : Int) < b) then (l.getD i 0, true) else (0, false)
def readS (t : Rn) : List (Nat × Bool) := readJ t.smp t.holes 0 0
theorem readJ_len (l : List Nat) (hs : List (Int × Int)) (a b : Int) : (readJ l hs a b).length = l.length := by simp [readJ]
theorem readJ_at (l : List Nat) (hs : List (Int × Int)) (a b : Int) (i : Nat) (h : i < l.length) : (readJ l hs a b).getD i (0, false) = if knownB hs i = true ∧ ¬ (a ≤ (i : Int) ∧ (i : Int) < b) then (l.getD i 0, true) else (0, false) := by
  rw [List.getD_eq_getElem?_getD, List.getElem?_eq_getElem (by rw [readJ_len]; exact h)]
  simp [readJ]
theorem readJ_none (l : List Nat) : readJ l [] 0 0 = l.map fun b => (b, true) := by
  refine getD_ext (d := (0, false)) (by simp [readJ]) fun i hi => ?_
  rw [readJ_len] at hi
  rw [readJ_at _ _ _ _ _ hi, if_pos ⟨rfl, by omega⟩, map_at (fun b : Nat => (b, true)) 0 (0, false) l i hi]
theorem knownB_snoc (hs : List (Int × Int)) (h : Int × Int) (i : Int) : knownB (hs ++ [h]) i = true ↔ knownB hs i = true ∧ ¬ (h.1 ≤ i ∧ i < h.2) := by
  unfold knownB
  rw [List.any_append]
  cases hs.any _ <;> simp <;> omega
theorem readJ_hole (l : List Nat) (hs : List (Int × Int)) (h : Int × Int) : readJ l (hs ++ [h]) 0 0 = readJ l hs h.1 h.2 := by
  refine getD_ext (d := (0, false)) (by rw [readJ_len, readJ_len]) fun i hi => ?_
  rw [readJ_len] at hi
  rw [readJ_at _ _ _ _ _ hi, readJ_at _ _ _ _ _ hi]
  by_cases hk : knownB (hs ++ [h]) i = true
  · rw [if_pos ⟨hk, by omega⟩, if_pos ((knownB_snoc hs h i).1 hk)]
  · rw [if_neg (fun e => hk e.1), if_neg (fun e => hk ((knownB_snoc hs h i).2 e))]
theorem readJ_start (l : List Nat) (hs : List (Int × Int)) (a : Int) : readJ l hs a a = readJ l hs 0 0 := by
  refine getD_ext (d := (0, false)) (by rw [readJ_len, readJ_len]) fun i hi => ?_
  rw [readJ_len] at hi
  rw [readJ_at _ _ _ _ _ hi, readJ_at _ _ _ _ _ hi]
  by_cases hk : knownB hs i = true
  · rw [if_pos ⟨hk, by omega⟩, if_pos ⟨hk, by omega⟩]
  · rw [if_neg (fun e => hk e.1), if_neg (fun e => hk e.1)]
theorem readJ_step (l : List Nat) (hs : List (Int × Int)) (a : Int) (i : Nat) (e : Nat) (he : (e : Int) = a + i) (hl : e < l.length) : (rdC (readJ l hs a (a + (i + 1 : Nat)))).cells = (Cont.gen (readJ l hs a (a + i)).length 2 fun q => if q = e then lay ((fun q => rdV ((readJ l hs a (a + i)).getD q (0, false))) e) 0 [.float .f32 0, .bool false] else (fun q => rdV ((readJ l hs a (a + i)).getD q (0, false))) q).cells := by
  rw [show (rdC (readJ l hs a (a + (i + 1 : Nat)))).cells = (Cont.gen (readJ l hs a (a + (i + 1 : Nat))).length 2 fun q => rdV ((readJ l hs a (a + (i + 1 : Nat))).getD q (0, false))).cells from rfl, readJ_len, readJ_len]
  refine gen_congr fun q hq => ?_
  dsimp only
  rw [readJ_at _ _ _ _ q hq]
  by_cases h1 : q = e
  · rw [if_pos h1, if_neg (fun h => h.2 ⟨by omega, by omega⟩)]
    rfl
  · rw [if_neg h1, readJ_at _ _ _ _ q hq]
    by_cases h2 : knownB hs q = true ∧ ¬ (a ≤ (q : Int) ∧ (q : Int) < a + i)
    · rw [if_pos h2, if_pos ⟨h2.1, by have := h2.2; omega⟩]
    · rw [if_neg h2, if_neg (fun h => h2 ⟨h.1, by have := h.2; omega⟩)]

def Rd1_i (b : Nat) : Inst := { f := 183, hin := [], args := [fl b], hout := [], ret := .agg [fl b, bl true], σ := [] }
theorem Rd1_s (b : Nat) : (Rd1_i b).ok Tryz.prog := by
  unfold Rd1_i Inst.ok; dsimp only; refine spec_of_body (tys := tys) 0 Tryz.func183 (by kernel_rfl) rfl tys_ok rfl (Nat.le_of_ble_eq_true rfl) (fun _ _ h => (by cases h)) fun F hP hm hC hrd => ?_; conv => whnf
  (repeat (first | (refine lwp_seq fun K hK => ?_) | (refine thenS_normal ?_; apply_assumption -exfalso -symm) | (refine thenS_exit ?_) | (refine thenS_ret ?_) | (refine inBlockS_normal ?_) | (refine inBlockS_ret ?_) | (refine inBlockS_hit rfl ?_) | (refine inBlockS_miss rfl ?_) | (refine lwp_block ?_) | (refine lwp_skip ?_) | (refine lwp_exit ?_) | (refine lwp_ret ?_) | (refine lwp_label ?_) | (refine lwp_region hC ⟨[], [], []⟩ (told0 _ _) rfl True.intro ?_) | (refine lwp_region hC ⟨[], [], []⟩ (told0 _ _) rfl (by ((try simp only [AllL, All, cd_p, cp_p, cv_p, InK, and_true, true_and]); all_goals ((repeat' (first | refine And.intro ?_ ?_ | intro _)) <;> first | omega | exact True.intro | assumption | (simp; done) | rfl | (simp_all; done) | (simp_all; omega)))) ?_)))
  (refine end_intro (by first | exact .inr rfl | exact .inl rfl) [] rfl ?_)
  ((try simp only [AllL, All, cd_p, cp_p, cv_p, InK, and_true, true_and]); all_goals ((repeat' (first | refine And.intro ?_ ?_ | intro _)) <;> first | omega | exact True.intro | assumption | (simp; done) | rfl | (simp_all; done) | (simp_all; omega)))
def RdM_i (l : List Nat) (σ : Ren) : Inst := { f := 182, hin := [(0, .ro l.length 1 (flC l))], args := [.sl 0 l.length, .fn 183 [] []], hout := [(1, .row 207 l.length 2 (rdC (readJ l [] 0 0)))], ret := .sl 1 l.length, σ := σ }
set_option maxRecDepth 20000 in
set_option maxHeartbeats 4000000 in
theorem RdM_s (l : List Nat) (σ : Ren) (hl : l.length ≤ 100000) : (RdM_i l σ).ok Tryz.prog := by
  have l1 := readJ_len l [] 0 0
  unfold RdM_i Inst.ok; dsimp only; refine spec_of_body (tys := tys) 1 Tryz.func182 (by kernel_rfl) rfl tys_ok rfl (Nat.le_of_ble_eq_true rfl) (fun _ _ h => (by cases h)) fun F hP hm hC hrd => ?_; conv => whnf
  repeat first | refine lwp_seq fun K hK => ?_ | ((with_reducible refine thenS_normal ?_); apply_assumption -exfalso -symm) | refine thenS_exit ?_ | refine thenS_ret ?_ | refine inBlockS_normal ?_ | refine inBlockS_ret ?_ | refine inBlockS_hit rfl ?_ | refine inBlockS_miss rfl ?_ | refine lwp_block ?_ | refine lwp_skip ?_ | refine lwp_exit ?_ | refine lwp_ret ?_ | refine lwp_label ?_ | refine lwp_region hC ⟨[], [], []⟩ (told0 _ _) rfl True.intro ?_
  refine lwp_loop (fun k : Nat => ⟨[(10, i64 k), (9, i64 l.length), (8, .sl 0 l.length), (5, .sl 1 k), (1, .fn 183 [] [])], [(0, .ro l.length 1 (flC l)), (1, .row 207 k 2 (rdC ((readJ l [] 0 0).take k)))], 2⟩) (fun k => k ≤ l.length) (fun k => l.length - k) 0 ⟨?_, sub_intro hm [(0, some 0), (1, none)] rfl ?_⟩ ?_
  · exact Nat.zero_le _
  · ((try simp only [AllL, All, cd_p, cp_p, cv_p, InK, and_true, true_and]); all_goals ((repeat' (first | refine And.intro ?_ ?_ | intro _)) <;> first | omega | exact True.intro | assumption | (simp; done) | rfl | (simp_all; done) | (simp_all; omega)))
  rintro k hk
  have hkk : ((k : Int)).toNat = k := Int.toNat_natCast k
  repeat first | refine lwp_seq fun K hK => ?_ | ((with_reducible refine thenS_normal ?_); apply_assumption -exfalso -symm) | refine thenS_exit ?_ | refine thenS_ret ?_ | refine inBlockS_normal ?_ | refine inBlockS_ret ?_ | refine inBlockS_hit rfl ?_ | refine inBlockS_miss rfl ?_ | refine lwp_block ?_ | refine lwp_skip ?_ | refine lwp_exit ?_ | refine lwp_ret ?_ | refine lwp_label ?_ | refine lwp_region hC ⟨[], [], []⟩ (told0 _ _) rfl True.intro ?_
  (refine lwp_cond hC rfl (by first | exact True.intro | ((try simp only [AllL, All, cd_p, cp_p, cv_p, InK, and_true, true_and]); all_goals ((repeat' (first | refine And.intro ?_ ?_ | intro _)) <;> first | omega | exact True.intro | assumption | (simp; done) | rfl | (simp_all; done) | (simp_all; omega)))) (fun hb => ?_) (fun hb => ?_) <;> (try simp only [decide_eq_true_eq, decide_eq_false_iff_not, Bool.not_eq_true', Bool.not_eq_false', ne_eq, Decidable.not_not] at hb))
  · have hk2 : k < l.length := by omega
    (repeat (first | (refine lwp_seq fun K hK => ?_) | (refine thenS_normal ?_; apply_assumption -exfalso -symm) | (refine thenS_exit ?_) | (refine thenS_ret ?_) | (refine inBlockS_normal ?_) | (refine inBlockS_ret ?_) | (refine inBlockS_hit rfl ?_) | (refine inBlockS_miss rfl ?_) | (refine lwp_block ?_) | (refine lwp_skip ?_) | (refine lwp_exit ?_) | (refine lwp_ret ?_) | (refine lwp_label ?_) | (refine lwp_region hC ⟨[], [], []⟩ (told0 _ _) rfl True.intro ?_) | (refine lwp_region hC ⟨[], [], []⟩ (told0 _ _) rfl (by ((try simp only [AllL, All, cd_p, cp_p, cv_p, InK, and_true, true_and]); all_goals ((repeat' (first | refine And.intro ?_ ?_ | intro _)) <;> first | omega | exact True.intro | assumption | (simp; done) | rfl | (simp_all; done) | (simp_all; omega)))) ?_)))
    (refine lwp_region hC ⟨[], [], [(3, Rd1_i (l.getD k 0))]⟩ (told1 _ (by rw [hP]; exact (calls_cons (Rd1_s _) calls_nil))) rfl ?_ ?_; rotate_left 1)
    · (repeat (first | (refine lwp_seq fun K hK => ?_) | (refine thenS_normal ?_; apply_assumption -exfalso -symm) | (refine thenS_exit ?_) | (refine thenS_ret ?_) | (refine inBlockS_normal ?_) | (refine inBlockS_ret ?_) | (refine inBlockS_hit rfl ?_) | (refine inBlockS_miss rfl ?_) | (refine lwp_block ?_) | (refine lwp_skip ?_) | (refine lwp_exit ?_) | (refine lwp_ret ?_) | (refine lwp_label ?_) | (refine lwp_region hC ⟨[], [], []⟩ (told0 _ _) rfl True.intro ?_) | (refine lwp_region hC ⟨[], [], []⟩ (told0 _ _) rfl (by ((try simp only [AllL, All, cd_p, cp_p, cv_p, InK, and_true, true_and]); all_goals ((repeat' (first | refine And.intro ?_ ?_ | intro _)) <;> first | omega | exact True.intro | assumption | (simp; done) | rfl | (simp_all; done) | (simp_all; omega)))) ?_)))
      refine thenS_normal ⟨k + 1, ?_, ?_, sub_intro hm [(0, some 0), (1, some 3)] rfl ?_⟩
      · omega
      · omega
      · have a1 := rdC_snoc ((readJ l [] 0 0).take k) ((readJ l [] 0 0).getD k (0, false))
        rw [← take_snoc _ _ _ (by omega), readJ_at _ _ _ _ _ hk2, if_pos ⟨rfl, by omega⟩] at a1
        have b1 : (rdC ((readJ l [] 0 0).take (k + 1))).cells = (catC (rdC ((readJ l [] 0 0).take k)) (Cont.exp [.lit (.float .f32 (l.getD k 0)), .lit (.bool true)])).cells := by
          rw [catC_cells, a1]; rfl
        clear a1
        ((try simp only [AllL, All, cd_p, cp_p, cv_p, InK, and_true, true_and]); all_goals ((repeat' (first | refine And.intro ?_ ?_ | intro _)) <;> first | omega | exact True.intro | assumption | (simp; done) | rfl | (simp_all; done) | (simp_all; omega)))
    · ((try simp only [AllL, All, cd_p, cp_p, cv_p, InK, and_true, true_and]); all_goals ((repeat' (first | refine And.intro ?_ ?_ | intro _)) <;> first | omega | exact True.intro | assumption | (simp; done) | rfl | (simp_all; done) | (simp_all; omega)))
  · obtain rfl : k = l.length := by omega
    rw [List.take_of_length_le (Nat.le_of_eq l1)]
    (repeat (first | (refine lwp_seq fun K hK => ?_) | (refine thenS_normal ?_; apply_assumption -exfalso -symm) | (refine thenS_exit ?_) | (refine thenS_ret ?_) | (refine inBlockS_normal ?_) | (refine inBlockS_ret ?_) | (refine inBlockS_hit rfl ?_) | (refine inBlockS_miss rfl ?_) | (refine lwp_block ?_) | (refine lwp_skip ?_) | (refine lwp_exit ?_) | (refine lwp_ret ?_) | (refine lwp_label ?_) | (refine lwp_region hC ⟨[], [], []⟩ (told0 _ _) rfl True.intro ?_) | (refine lwp_region hC ⟨[], [], []⟩ (told0 _ _) rfl (by ((try simp only [AllL, All, cd_p, cp_p, cv_p, InK, and_true, true_and]); all_goals ((repeat' (first | refine And.intro ?_ ?_ | intro _)) <;> first | omega | exact True.intro | assumption | (simp; done) | rfl | (simp_all; done) | (simp_all; omega)))) ?_)))
    (refine end_intro (by first | exact .inr rfl | exact .inl rfl) [(1, some 1)] rfl ?_)
    ((try simp only [AllL, All, cd_p, cp_p, cv_p, InK, and_true, true_and]); all_goals ((repeat' (first | refine And.intro ?_ ?_ | intro _)) <;> first | omega | exact True.intro | assumption | (simp; done) | rfl | (simp_all; done) | (simp_all; omega)))

def Rdg_i (t : Rn) (σ : Ren) : Inst := { f := 117, hin := rnIn t, args := [rnA 0 1 t], hout := [(2, .row 207 t.smp.length 2 (rdC (readS t)))], ret := .sl 2 t.smp.length, σ := σ }
set_option maxRecDepth 20000 in
set_option maxHeartbeats 4000000 in
theorem Rdg_s (t : Rn) (σ : Ren) (hok : HolesOk t.smp.length t.holes) (h1 : t.smp.length ≤ 100000) (h2 : t.holes.length ≤ 100000) : (Rdg_i t σ).ok Tryz.prog := by
  unfold Rdg_i Inst.ok; dsimp only; refine spec_of_body (tys := tys) 2 Tryz.func117 (by kernel_rfl) rfl tys_ok rfl (Nat.le_of_ble_eq_true rfl) (fun _ _ h => (by cases h)) fun F hP hm hC hrd => ?_; conv => whnf
  repeat first | refine lwp_seq fun K hK => ?_ | ((with_reducible refine thenS_normal ?_); apply_assumption -exfalso -symm) | refine thenS_exit ?_ | refine thenS_ret ?_ | refine inBlockS_normal ?_ | refine inBlockS_ret ?_ | refine inBlockS_hit rfl ?_ | refine inBlockS_miss rfl ?_ | refine lwp_block ?_ | refine lwp_skip ?_ | refine lwp_exit ?_ | refine lwp_ret ?_ | refine lwp_label ?_ | refine lwp_region hC ⟨[], [], []⟩ (told0 _ _) rfl True.intro ?_
  (refine lwp_region hC ⟨[], [], [(2, RdM_i t.smp [(0, some 0)])]⟩ (told1 _ (by rw [hP]; exact (calls_cons (RdM_s _ _ h1) calls_nil))) rfl ?_ ?_; rotate_left 1)
  · repeat first | refine lwp_seq fun K hK => ?_ | ((with_reducible refine thenS_normal ?_); apply_assumption -exfalso -symm) | refine thenS_exit ?_ | refine thenS_ret ?_ | refine inBlockS_normal ?_ | refine inBlockS_ret ?_ | refine inBlockS_hit rfl ?_ | refine inBlockS_miss rfl ?_ | refine lwp_block ?_ | refine lwp_skip ?_ | refine lwp_exit ?_ | refine lwp_ret ?_ | refine lwp_label ?_ | refine lwp_region hC ⟨[], [], []⟩ (told0 _ _) rfl True.intro ?_
    refine lwp_loop (fun j : Nat => ⟨[(13, i64 j), (12, i64 t.holes.length), (11, .sl 1 t.holes.length), (3, .sl 3 t.smp.length), (1, .ptr 2 0 0 0)], [(3, .row 207 t.smp.length 2 (rdC (readJ t.smp (t.holes.take j) 0 0))), (2, .blk 72 [.lit (.string t.name), i64 t.first, .sl 0 t.smp.length, .sl 1 t.holes.length]), (0, .ro t.smp.length 1 (flC t.smp)), (1, .ro t.holes.length 2 (spC t.holes))], 4⟩) (fun j => j ≤ t.holes.length) (fun j => t.holes.length - j) 0 ⟨?_, sub_intro hm [(0, some 0), (1, some 1), (2, some 2), (3, some 3)] rfl ?_⟩ ?_
    · exact Nat.zero_le _
    · rw [List.take_zero]
      ((try simp only [AllL, All, cd_p, cp_p, cv_p, InK, and_true, true_and]); all_goals ((repeat' (first | refine And.intro ?_ ?_ | intro _)) <;> first | omega | exact True.intro | assumption | (simp; done) | rfl | (simp_all; done) | (simp_all; omega)))
    · rintro j hj
      have hjj : ((j : Int)).toNat = j := Int.toNat_natCast j
      repeat first | refine lwp_seq fun K hK => ?_ | ((with_reducible refine thenS_normal ?_); apply_assumption -exfalso -symm) | refine thenS_exit ?_ | refine thenS_ret ?_ | refine inBlockS_normal ?_ | refine inBlockS_ret ?_ | refine inBlockS_hit rfl ?_ | refine inBlockS_miss rfl ?_ | refine lwp_block ?_ | refine lwp_skip ?_ | refine lwp_exit ?_ | refine lwp_ret ?_ | refine lwp_label ?_ | refine lwp_region hC ⟨[], [], []⟩ (told0 _ _) rfl True.intro ?_
      (refine lwp_cond hC rfl (by first | exact True.intro | ((try simp only [AllL, All, cd_p, cp_p, cv_p, InK, and_true, true_and]); all_goals ((repeat' (first | refine And.intro ?_ ?_ | intro _)) <;> first | omega | exact True.intro | assumption | (simp; done) | rfl | (simp_all; done) | (simp_all; omega)))) (fun hb => ?_) (fun hb => ?_) <;> (try simp only [decide_eq_true_eq, decide_eq_false_iff_not, Bool.not_eq_true', Bool.not_eq_false', ne_eq, Decidable.not_not] at hb))
      · have hj2 : j < t.holes.length := by omega
        have hh : 0 ≤ (t.holes.getD j (0, 0)).1 ∧ (t.holes.getD j (0, 0)).1 < (t.holes.getD j (0, 0)).2 ∧ (t.holes.getD j (0, 0)).2 ≤ t.smp.length := by
          rw [List.getD_eq_getElem?_getD, List.getElem?_eq_getElem hj2]
          exact hok _ (List.getElem_mem hj2)
        have htk : t.holes.take (j + 1) = t.holes.take j ++ [t.holes.getD j (0, 0)] := take_snoc _ _ _ hj2
        (repeat (first | (refine lwp_seq fun K hK => ?_) | (refine thenS_normal ?_; apply_assumption -exfalso -symm) | (refine thenS_exit ?_) | (refine thenS_ret ?_) | (refine inBlockS_normal ?_) | (refine inBlockS_ret ?_) | (refine inBlockS_hit rfl ?_) | (refine inBlockS_miss rfl ?_) | (refine lwp_block ?_) | (refine lwp_skip ?_) | (refine lwp_exit ?_) | (refine lwp_ret ?_) | (refine lwp_label ?_) | (refine lwp_region hC ⟨[], [], []⟩ (told0 _ _) rfl True.intro ?_) | (refine lwp_region hC ⟨[], [], []⟩ (told0 _ _) rfl (by ((try simp only [AllL, All, cd_p, cp_p, cv_p, InK, and_true, true_and]); all_goals ((repeat' (first | refine And.intro ?_ ?_ | intro _)) <;> first | omega | exact True.intro | assumption | (simp; done) | rfl | (simp_all; done) | (simp_all; omega)))) ?_)))
        rw [hjj]
        generalize hh2 : t.holes.getD j (0, 0) = h at hh htk ⊢
        obtain ⟨a, b⟩ := h
        dsimp only at hh
        refine lwp_loop (fun i : Nat => ⟨[(22, i64 i), (21, i64 (b - a)), (5, .ptr 4 0 0 0), (13, i64 j), (12, i64 t.holes.length), (11, .sl 1 t.holes.length), (3, .sl 3 t.smp.length), (1, .ptr 2 0 0 0)], [(4, .blk 168 [i64 a, i64 b]), (3, .row 207 t.smp.length 2 (rdC (readJ t.smp (t.holes.take j) a (a + i)))), (2, .blk 72 [.lit (.string t.name), i64 t.first, .sl 0 t.smp.length, .sl 1 t.holes.length]), (0, .ro t.smp.length 1 (flC t.smp)), (1, .ro t.holes.length 2 (spC t.holes))], 5⟩) (fun i => a + (i : Int) ≤ b) (fun i => (b - a).toNat - i) 0 ⟨?_, sub_intro hm [(0, some 0), (1, some 1), (2, some 2), (3, some 3), (4, some 4)] rfl ?_⟩ ?_
        · show a + ((0 : Nat) : Int) ≤ b
          omega
        · rw [show a + ((0 : Nat) : Int) = a by omega, readJ_start]
          ((try simp only [AllL, All, cd_p, cp_p, cv_p, InK, and_true, true_and]); all_goals ((repeat' (first | refine And.intro ?_ ?_ | intro _)) <;> first | omega | exact True.intro | assumption | (simp; done) | rfl | (simp_all; done) | (simp_all; omega)))
        · clear hb
          rintro i hi
          have l1 := readJ_len t.smp (t.holes.take j) a (a + i)
          (repeat (first | (refine lwp_seq fun K hK => ?_) | (refine thenS_normal ?_; apply_assumption -exfalso -symm) | (refine thenS_exit ?_) | (refine thenS_ret ?_) | (refine inBlockS_normal ?_) | (refine inBlockS_ret ?_) | (refine inBlockS_hit rfl ?_) | (refine inBlockS_miss rfl ?_) | (refine lwp_block ?_) | (refine lwp_skip ?_) | (refine lwp_exit ?_) | (refine lwp_ret ?_) | (refine lwp_label ?_) | (refine lwp_region hC ⟨[], [], []⟩ (told0 _ _) rfl True.intro ?_) | (refine lwp_region hC ⟨[], [], []⟩ (told0 _ _) rfl (by ((try simp only [AllL, All, cd_p, cp_p, cv_p, InK, and_true, true_and]); all_goals ((repeat' (first | refine And.intro ?_ ?_ | intro _)) <;> first | omega | exact True.intro | assumption | (simp; done) | rfl | (simp_all; done) | (simp_all; omega)))) ?_)))
          (refine lwp_cond hC rfl (by first | exact True.intro | ((try simp only [AllL, All, cd_p, cp_p, cv_p, InK, and_true, true_and]); all_goals ((repeat' (first | refine And.intro ?_ ?_ | intro _)) <;> first | omega | exact True.intro | assumption | (simp; done) | rfl | (simp_all; done) | (simp_all; omega)))) (fun hb => ?_) (fun hb => ?_) <;> (try simp only [decide_eq_true_eq, decide_eq_false_iff_not, Bool.not_eq_true', Bool.not_eq_false', ne_eq, Decidable.not_not] at hb))
          · have e4 : ((a + (i : Int)).toNat : Int) = a + i := by omega
            have hst := readJ_step t.smp (t.holes.take j) a i (a + i).toNat e4 (by omega)
            repeat first | refine lwp_seq fun K hK => ?_ | ((with_reducible refine thenS_normal ?_); apply_assumption -exfalso -symm) | refine thenS_exit ?_ | refine thenS_ret ?_ | refine inBlockS_normal ?_ | refine inBlockS_ret ?_ | refine inBlockS_hit rfl ?_ | refine inBlockS_miss rfl ?_ | refine lwp_block ?_ | refine lwp_skip ?_ | refine lwp_exit ?_ | refine lwp_ret ?_ | refine lwp_label ?_ | refine lwp_region hC ⟨[], [], []⟩ (told0 _ _) rfl True.intro ?_
            (refine lwp_region hC ⟨[], [], []⟩ (told0 _ _) rfl ?_ ?_; rotate_left 1)
            · (repeat (first | (refine lwp_seq fun K hK => ?_) | (refine thenS_normal ?_; apply_assumption -exfalso -symm) | (refine thenS_exit ?_) | (refine thenS_ret ?_) | (refine inBlockS_normal ?_) | (refine inBlockS_ret ?_) | (refine inBlockS_hit rfl ?_) | (refine inBlockS_miss rfl ?_) | (refine lwp_block ?_) | (refine lwp_skip ?_) | (refine lwp_exit ?_) | (refine lwp_ret ?_) | (refine lwp_label ?_) | (refine lwp_region hC ⟨[], [], []⟩ (told0 _ _) rfl True.intro ?_) | (refine lwp_region hC ⟨[], [], []⟩ (told0 _ _) rfl (by ((try simp only [AllL, All, cd_p, cp_p, cv_p, InK, and_true, true_and]); all_goals ((repeat' (first | refine And.intro ?_ ?_ | intro _)) <;> first | omega | exact True.intro | assumption | (simp; done) | rfl | (simp_all; done) | (simp_all; omega)))) ?_)))
              refine thenS_normal ⟨i + 1, ?_, ?_, sub_intro hm [(0, some 0), (1, some 1), (2, some 2), (3, some 3), (4, some 4)] rfl ?_⟩
              · omega
              · omega
              · ((try simp only [AllL, All, cd_p, cp_p, cv_p, InK, and_true, true_and]); all_goals ((repeat' (first | refine And.intro ?_ ?_ | intro _)) <;> first | omega | exact True.intro | assumption | (simp; done) | rfl | (simp_all; done) | (simp_all; omega)))
            · clear hst
              refine ⟨⟨rfl, (show (a + (i : Int)).toNat < (readJ t.smp (t.holes.take j) a (a + i)).length by rw [l1]; omega), trivial⟩, ?_⟩
              ((try simp only [AllL, All, cd_p, cp_p, cv_p, InK, and_true, true_and]); all_goals ((repeat' (first | refine And.intro ?_ ?_ | intro _)) <;> first | omega | exact True.intro | assumption | (simp; done) | rfl | (simp_all; done) | (simp_all; omega)))
          · have e4 : a + (i : Int) = b := by omega
            rw [e4]
            have hj1 : readJ t.smp (t.holes.take (j + 1)) 0 0 = readJ t.smp (t.holes.take j) a b := by rw [htk]; exact readJ_hole _ _ _
            (repeat (first | (refine lwp_seq fun K hK => ?_) | (refine thenS_normal ?_; apply_assumption -exfalso -symm) | (refine thenS_exit ?_) | (refine thenS_ret ?_) | (refine inBlockS_normal ?_) | (refine inBlockS_ret ?_) | (refine inBlockS_hit rfl ?_) | (refine inBlockS_miss rfl ?_) | (refine lwp_block ?_) | (refine lwp_skip ?_) | (refine lwp_exit ?_) | (refine lwp_ret ?_) | (refine lwp_label ?_) | (refine lwp_region hC ⟨[], [], []⟩ (told0 _ _) rfl True.intro ?_) | (refine lwp_region hC ⟨[], [], []⟩ (told0 _ _) rfl (by ((try simp only [AllL, All, cd_p, cp_p, cv_p, InK, and_true, true_and]); all_goals ((repeat' (first | refine And.intro ?_ ?_ | intro _)) <;> first | omega | exact True.intro | assumption | (simp; done) | rfl | (simp_all; done) | (simp_all; omega)))) ?_)))
            refine thenS_normal ⟨j + 1, ?_, ?_, sub_intro hm [(0, some 0), (1, some 1), (2, some 2), (3, some 3)] rfl ?_⟩
            · omega
            · omega
            · rw [hj1]
              ((try simp only [AllL, All, cd_p, cp_p, cv_p, InK, and_true, true_and]); all_goals ((repeat' (first | refine And.intro ?_ ?_ | intro _)) <;> first | omega | exact True.intro | assumption | (simp; done) | rfl | (simp_all; done) | (simp_all; omega)))
      · obtain rfl : j = t.holes.length := by omega
        rw [List.take_length]
        (repeat (first | (refine lwp_seq fun K hK => ?_) | (refine thenS_normal ?_; apply_assumption -exfalso -symm) | (refine thenS_exit ?_) | (refine thenS_ret ?_) | (refine inBlockS_normal ?_) | (refine inBlockS_ret ?_) | (refine inBlockS_hit rfl ?_) | (refine inBlockS_miss rfl ?_) | (refine lwp_block ?_) | (refine lwp_skip ?_) | (refine lwp_exit ?_) | (refine lwp_ret ?_) | (refine lwp_label ?_) | (refine lwp_region hC ⟨[], [], []⟩ (told0 _ _) rfl True.intro ?_) | (refine lwp_region hC ⟨[], [], []⟩ (told0 _ _) rfl (by ((try simp only [AllL, All, cd_p, cp_p, cv_p, InK, and_true, true_and]); all_goals ((repeat' (first | refine And.intro ?_ ?_ | intro _)) <;> first | omega | exact True.intro | assumption | (simp; done) | rfl | (simp_all; done) | (simp_all; omega)))) ?_)))
        (refine end_intro (by first | exact .inr rfl | exact .inl rfl) [(2, some 3)] rfl ?_)
        ((try simp only [AllL, All, cd_p, cp_p, cv_p, InK, and_true, true_and]); all_goals ((repeat' (first | refine And.intro ?_ ?_ | intro _)) <;> first | omega | exact True.intro | assumption | (simp; done) | rfl | (simp_all; done) | (simp_all; omega)))
  · ((try simp only [AllL, All, cd_p, cp_p, cv_p, InK, and_true, true_and]); all_goals ((repeat' (first | refine And.intro ?_ ?_ | intro _)) <;> first | omega | exact True.intro | assumption | (simp; done) | rfl | (simp_all; done) | (simp_all; omega)))

end Go.Proofs.YtoopgdchiljmiaaGreatDoor
