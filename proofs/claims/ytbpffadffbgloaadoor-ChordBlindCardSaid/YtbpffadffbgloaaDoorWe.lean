/- Contracts: common, Blind, Both. -/
import Derived.Test.YtbpffadffbgloaaDoorWa
import Derived.Test.YtbpffadffbgloaaDoorRc
set_option linter.unusedVariables false
set_option linter.unusedSimpArgs false
namespace Go.Proofs.YtbpffadffbgloaaDoor
open Go.RowKit Go.Sym

def divN (n m : Int) : Bool := decide (m.tmod n ≠ 0)
def Cm_i (n m : Int) (σ : Ren) : Inst := { f := 109, hin := [(0, .rb 3 [i64 n])], args := [i64 m, .ptr 0 0 0 0], hout := [], ret := bl (divN n m), σ := σ }
set_option maxRecDepth 20000 in
theorem Cm_s (n m : Int) (σ : Ren) (h : 2 ≤ n) (m0 : 0 ≤ m) (h2 : n ≤ 1000) : (Cm_i n m σ).ok Tryd.prog := by
  have hb : 0 ≤ m.tmod n ∧ m.tmod n < n := by
    rw [Int.tmod_eq_emod_of_nonneg m0]
    exact ⟨Int.emod_nonneg _ (by omega), Int.emod_lt_of_pos _ (by omega)⟩
  unfold Cm_i Inst.ok; dsimp only; refine spec_of_body (tys := tys) 1 Tryd.func109 (by kernel_rfl) rfl tys_ok rfl (Nat.le_of_ble_eq_true rfl) (fun _ _ h => (by cases h)) fun F hP hm hC => ?_; conv => whnf
  repeat first | refine lwp_seq fun K hK => ?_ | ((with_reducible refine thenS_normal ?_); apply_assumption -exfalso -symm) | refine thenS_exit ?_ | refine thenS_ret ?_ | refine inBlockS_normal ?_ | refine inBlockS_ret ?_ | refine inBlockS_hit rfl ?_ | refine inBlockS_miss rfl ?_ | refine lwp_block ?_ | refine lwp_skip ?_ | refine lwp_exit ?_ | refine lwp_ret ?_ | refine lwp_label ?_ | refine lwp_region hC ⟨[], [], []⟩ (told0 _ _) rfl True.intro ?_ | refine lwp_region hC ⟨[], [], []⟩ (told0 _ _) rfl (by ((try simp only [AllL, All, cd_p, cp_p, cv_p, InK, and_true, true_and]); all_goals ((repeat' (first | refine And.intro ?_ ?_ | intro _)) <;> first | omega | exact True.intro | assumption | (simp; done) | rfl | (simp_all; done) | (simp_all; omega)))) ?_
  (refine end_intro (by first | exact .inr rfl | exact .inl rfl) [] rfl ?_)
  unfold divN
  ((try simp only [AllL, All, cd_p, cp_p, cv_p, InK, and_true, true_and]); all_goals ((repeat' (first | refine And.intro ?_ ?_ | intro _)) <;> first | omega | exact True.intro | assumption | (simp; done) | rfl | (simp_all; done) | (simp_all; omega)))

/-- The first number that another one does not divide. -/
def idxN (n : Int) (l : List Int) : Int := if l.any (divN n) then ((l.findIdx (divN n) : Nat) : Int) else -1
theorem idxN_hit {n : Int} {l : List Int} {k : Nat} (hk : k < l.length) (h : divN n (l.getD k 0) = true) (hb : ∀ i : Nat, i < k → divN n (l.getD i 0) = false) : idxN n l = k := by
  have e : ∀ i (hi : i < l.length), l.getD i 0 = l[i] := fun i hi => by rw [List.getD_eq_getElem?_getD, List.getElem?_eq_getElem hi]; rfl
  have ha : l.any (divN n) = true := List.any_eq_true.2 ⟨l[k], List.getElem_mem hk, by rw [← e k hk]; exact h⟩
  have hf : l.findIdx (divN n) = k := (List.findIdx_eq hk).2 ⟨by rw [← e k hk]; exact h, fun j hj => by rw [← e j (by omega)]; exact hb j hj⟩
  unfold idxN
  rw [if_pos ha, hf]
theorem idxN_none {n : Int} {l : List Int} (hb : ∀ i : Nat, i < l.length → divN n (l.getD i 0) = false) : idxN n l = -1 := by
  have ha : ¬ l.any (divN n) = true := by
    rw [Bool.not_eq_true, List.any_eq_false]
    intro x hx
    obtain ⟨i, hi, rfl⟩ := List.mem_iff_getElem.1 hx
    have := hb i hi
    rw [List.getD_eq_getElem?_getD, List.getElem?_eq_getElem hi] at this
    simpa using this
  unfold idxN
  rw [if_neg ha]
theorem idxN_sign (n : Int) (l : List Int) : decide (idxN n l ≥ 0) = l.any (divN n) := by
  unfold idxN
  cases h : l.any (divN n) with
  | true => rw [if_pos rfl]; exact decide_eq_true (by omega)
  | false => rw [if_neg (by simp)]; rfl
def Ix_i (n : Int) (l : List Int) (σ : Ren) : Inst := { f := 113, hin := [(0, .ro l.length 1 (.ints .i64 l)), (1, .rb 3 [i64 n])], args := [.sl 0 l.length, .fn 109 [] [.ptr 1 0 0 0]], hout := [], ret := i64 (idxN n l), σ := σ }
set_option maxRecDepth 20000 in
set_option maxHeartbeats 4000000 in
theorem Ix_s (n : Int) (l : List Int) (σ : Ren) (h : 2 ≤ n) (h2 : n ≤ 1000) (hl : l.length ≤ 1000) (hv : ∀ x ∈ l, 0 ≤ x) : (Ix_i n l σ).ok Tryd.prog := by
  unfold Ix_i Inst.ok; dsimp only; refine spec_of_body (tys := tys) 2 Tryd.func113 (by kernel_rfl) rfl tys_ok rfl (Nat.le_of_ble_eq_true rfl) (fun _ _ h => (by cases h)) fun F hP hm hC => ?_; conv => whnf
  repeat first | refine lwp_seq fun K hK => ?_ | ((with_reducible refine thenS_normal ?_); apply_assumption -exfalso -symm) | refine thenS_exit ?_ | refine thenS_ret ?_ | refine inBlockS_normal ?_ | refine inBlockS_ret ?_ | refine inBlockS_hit rfl ?_ | refine inBlockS_miss rfl ?_ | refine lwp_block ?_ | refine lwp_skip ?_ | refine lwp_exit ?_ | refine lwp_ret ?_ | refine lwp_label ?_ | refine lwp_region hC ⟨[], [], []⟩ (told0 _ _) rfl True.intro ?_
  refine lwp_loop (fun k : Nat => ⟨[(8, i64 k), (7, i64 l.length), (0, .sl 0 l.length), (1, .fn 109 [] [.ptr 1 0 0 0])], [(0, .ro l.length 1 (.ints .i64 l)), (1, .rb 3 [i64 n])], 2⟩) (fun k => k ≤ l.length ∧ ∀ i : Nat, i < k → divN n (l.getD i 0) = false) (fun k => l.length - k) 0 ⟨?_, sub_intro hm [(0, some 0), (1, some 1)] rfl ?_⟩ ?_
  · exact ⟨Nat.zero_le _, fun i hi => absurd hi (Nat.not_lt_zero _)⟩
  · ((try simp only [AllL, All, cd_p, cp_p, cv_p, InK, and_true, true_and]); all_goals ((repeat' (first | refine And.intro ?_ ?_ | intro _)) <;> first | omega | exact True.intro | assumption | (simp; done) | rfl | (simp_all; done) | (simp_all; omega)))
  rintro k ⟨hk, hf⟩
  have hkk : ((k : Int)).toNat = k := Int.toNat_natCast k
  have HF := Lib.hid hf
  clear hf
  repeat first | refine lwp_seq fun K hK => ?_ | ((with_reducible refine thenS_normal ?_); apply_assumption -exfalso -symm) | refine thenS_exit ?_ | refine thenS_ret ?_ | refine inBlockS_normal ?_ | refine inBlockS_ret ?_ | refine inBlockS_hit rfl ?_ | refine inBlockS_miss rfl ?_ | refine lwp_block ?_ | refine lwp_skip ?_ | refine lwp_exit ?_ | refine lwp_ret ?_ | refine lwp_label ?_ | refine lwp_region hC ⟨[], [], []⟩ (told0 _ _) rfl True.intro ?_
  (refine lwp_cond hC rfl (by first | exact True.intro | ((try simp only [AllL, All, cd_p, cp_p, cv_p, InK, and_true, true_and]); all_goals ((repeat' (first | refine And.intro ?_ ?_ | intro _)) <;> first | omega | exact True.intro | assumption | (simp; done) | rfl | (simp_all; done) | (simp_all; omega)))) (fun hb => ?_) (fun hb => ?_) <;> (try simp only [decide_eq_true_eq, decide_eq_false_iff_not, Bool.not_eq_true', Bool.not_eq_false', ne_eq, Decidable.not_not] at hb))
  · have hk2 : k < l.length := by omega
    have hx : 0 ≤ l.getD k 0 := by
      rw [List.getD_eq_getElem?_getD, List.getElem?_eq_getElem hk2]; exact hv _ (List.getElem_mem hk2)
    clear hv
    repeat first | refine lwp_seq fun K hK => ?_ | ((with_reducible refine thenS_normal ?_); apply_assumption -exfalso -symm) | refine thenS_exit ?_ | refine thenS_ret ?_ | refine inBlockS_normal ?_ | refine inBlockS_ret ?_ | refine inBlockS_hit rfl ?_ | refine inBlockS_miss rfl ?_ | refine lwp_block ?_ | refine lwp_skip ?_ | refine lwp_exit ?_ | refine lwp_ret ?_ | refine lwp_label ?_ | refine lwp_region hC ⟨[], [], []⟩ (told0 _ _) rfl True.intro ?_
    (refine lwp_region hC ⟨[], [], [(5, Cm_i n (l.getD k 0) [(0, some 1)])]⟩ (told1 _ (by rw [hP]; exact (calls_cons (Cm_s _ _ _ h hx h2) calls_nil))) rfl ?_ ?_; rotate_left 1)
    · repeat first | refine lwp_seq fun K hK => ?_ | ((with_reducible refine thenS_normal ?_); apply_assumption -exfalso -symm) | refine thenS_exit ?_ | refine thenS_ret ?_ | refine inBlockS_normal ?_ | refine inBlockS_ret ?_ | refine inBlockS_hit rfl ?_ | refine inBlockS_miss rfl ?_ | refine lwp_block ?_ | refine lwp_skip ?_ | refine lwp_exit ?_ | refine lwp_ret ?_ | refine lwp_label ?_ | refine lwp_region hC ⟨[], [], []⟩ (told0 _ _) rfl True.intro ?_
      (refine lwp_cond hC rfl (by first | exact True.intro | ((try simp only [AllL, All, cd_p, cp_p, cv_p, InK, and_true, true_and]); all_goals ((repeat' (first | refine And.intro ?_ ?_ | intro _)) <;> first | omega | exact True.intro | assumption | (simp; done) | rfl | (simp_all; done) | (simp_all; omega)))) (fun hb => ?_) (fun hb => ?_) <;> (try simp only [decide_eq_true_eq, decide_eq_false_iff_not, Bool.not_eq_true', Bool.not_eq_false', ne_eq, Decidable.not_not] at hb))
      · rw [idxN_hit hk2 hb HF.out]
        repeat first | refine lwp_seq fun K hK => ?_ | ((with_reducible refine thenS_normal ?_); apply_assumption -exfalso -symm) | refine thenS_exit ?_ | refine thenS_ret ?_ | refine inBlockS_normal ?_ | refine inBlockS_ret ?_ | refine inBlockS_hit rfl ?_ | refine inBlockS_miss rfl ?_ | refine lwp_block ?_ | refine lwp_skip ?_ | refine lwp_exit ?_ | refine lwp_ret ?_ | refine lwp_label ?_ | refine lwp_region hC ⟨[], [], []⟩ (told0 _ _) rfl True.intro ?_
        (refine end_intro (by first | exact .inr rfl | exact .inl rfl) [] rfl ?_)
        ((try simp only [AllL, All, cd_p, cp_p, cv_p, InK, and_true, true_and]); all_goals ((repeat' (first | refine And.intro ?_ ?_ | intro _)) <;> first | omega | exact True.intro | assumption | (simp; done) | rfl | (simp_all; done) | (simp_all; omega)))
      · repeat first | refine lwp_seq fun K hK => ?_ | ((with_reducible refine thenS_normal ?_); apply_assumption -exfalso -symm) | refine thenS_exit ?_ | refine thenS_ret ?_ | refine inBlockS_normal ?_ | refine inBlockS_ret ?_ | refine inBlockS_hit rfl ?_ | refine inBlockS_miss rfl ?_ | refine lwp_block ?_ | refine lwp_skip ?_ | refine lwp_exit ?_ | refine lwp_ret ?_ | refine lwp_label ?_ | refine lwp_region hC ⟨[], [], []⟩ (told0 _ _) rfl True.intro ?_ | refine lwp_region hC ⟨[], [], []⟩ (told0 _ _) rfl (by ((try simp only [AllL, All, cd_p, cp_p, cv_p, InK, and_true, true_and]); all_goals ((repeat' (first | refine And.intro ?_ ?_ | intro _)) <;> first | omega | exact True.intro | assumption | (simp; done) | rfl | (simp_all; done) | (simp_all; omega)))) ?_
        refine thenS_normal ⟨k + 1, ?_, ?_, sub_intro hm [(0, some 0), (1, some 1)] rfl ?_⟩
        · refine ⟨hk2, fun i hi => ?_⟩
          by_cases e : i = k
          · subst e; simpa using hb
          · exact HF.out i (by omega)
        · omega
        · ((try simp only [AllL, All, cd_p, cp_p, cv_p, InK, and_true, true_and]); all_goals ((repeat' (first | refine And.intro ?_ ?_ | intro _)) <;> first | omega | exact True.intro | assumption | (simp; done) | rfl | (simp_all; done) | (simp_all; omega)))
    · ((try simp only [AllL, All, cd_p, cp_p, cv_p, InK, and_true, true_and]); all_goals ((repeat' (first | refine And.intro ?_ ?_ | intro _)) <;> first | omega | exact True.intro | assumption | (simp; done) | rfl | (simp_all; done) | (simp_all; omega)))
  · have hk3 : k = l.length := by omega
    subst hk3
    repeat first | refine lwp_seq fun K hK => ?_ | ((with_reducible refine thenS_normal ?_); apply_assumption -exfalso -symm) | refine thenS_exit ?_ | refine thenS_ret ?_ | refine inBlockS_normal ?_ | refine inBlockS_ret ?_ | refine inBlockS_hit rfl ?_ | refine inBlockS_miss rfl ?_ | refine lwp_block ?_ | refine lwp_skip ?_ | refine lwp_exit ?_ | refine lwp_ret ?_ | refine lwp_label ?_ | refine lwp_region hC ⟨[], [], []⟩ (told0 _ _) rfl True.intro ?_ | refine lwp_region hC ⟨[], [], []⟩ (told0 _ _) rfl (by ((try simp only [AllL, All, cd_p, cp_p, cv_p, InK, and_true, true_and]); all_goals ((repeat' (first | refine And.intro ?_ ?_ | intro _)) <;> first | omega | exact True.intro | assumption | (simp; done) | rfl | (simp_all; done) | (simp_all; omega)))) ?_
    rw [idxN_none HF.out]
    (refine end_intro (by first | exact .inr rfl | exact .inl rfl) [] rfl ?_)
    ((try simp only [AllL, All, cd_p, cp_p, cv_p, InK, and_true, true_and]); all_goals ((repeat' (first | refine And.intro ?_ ?_ | intro _)) <;> first | omega | exact True.intro | assumption | (simp; done) | rfl | (simp_all; done) | (simp_all; omega)))
def Cf_i (n : Int) (l : List Int) (σ : Ren) : Inst := { f := 104, hin := [(0, .ro l.length 1 (.ints .i64 l)), (1, .rb 3 [i64 n])], args := [.sl 0 l.length, .fn 109 [] [.ptr 1 0 0 0]], hout := [], ret := bl (l.any (divN n)), σ := σ }
set_option maxRecDepth 20000 in
theorem Cf_s (n : Int) (l : List Int) (σ : Ren) (h : 2 ≤ n) (h2 : n ≤ 1000) (hl : l.length ≤ 1000) (hv : ∀ x ∈ l, 0 ≤ x) : (Cf_i n l σ).ok Tryd.prog := by
  have hsg := idxN_sign n l
  unfold Cf_i Inst.ok; dsimp only; refine spec_of_body (tys := tys) 2 Tryd.func104 (by kernel_rfl) rfl tys_ok rfl (Nat.le_of_ble_eq_true rfl) (fun _ _ h => (by cases h)) fun F hP hm hC => ?_; conv => whnf
  repeat first | refine lwp_seq fun K hK => ?_ | ((with_reducible refine thenS_normal ?_); apply_assumption -exfalso -symm) | refine thenS_exit ?_ | refine thenS_ret ?_ | refine inBlockS_normal ?_ | refine inBlockS_ret ?_ | refine inBlockS_hit rfl ?_ | refine inBlockS_miss rfl ?_ | refine lwp_block ?_ | refine lwp_skip ?_ | refine lwp_exit ?_ | refine lwp_ret ?_ | refine lwp_label ?_ | refine lwp_region hC ⟨[], [], []⟩ (told0 _ _) rfl True.intro ?_
  (refine lwp_region hC ⟨[], [], [(2, Ix_i n l [(0, some 0), (1, some 1)])]⟩ (told1 _ (by rw [hP]; exact (calls_cons (Ix_s _ _ _ h h2 hl hv) calls_nil))) rfl ?_ ?_; rotate_left 1)
  · repeat first | refine lwp_seq fun K hK => ?_ | ((with_reducible refine thenS_normal ?_); apply_assumption -exfalso -symm) | refine thenS_exit ?_ | refine thenS_ret ?_ | refine inBlockS_normal ?_ | refine inBlockS_ret ?_ | refine inBlockS_hit rfl ?_ | refine inBlockS_miss rfl ?_ | refine lwp_block ?_ | refine lwp_skip ?_ | refine lwp_exit ?_ | refine lwp_ret ?_ | refine lwp_label ?_ | refine lwp_region hC ⟨[], [], []⟩ (told0 _ _) rfl True.intro ?_ | refine lwp_region hC ⟨[], [], []⟩ (told0 _ _) rfl (by ((try simp only [AllL, All, cd_p, cp_p, cv_p, InK, and_true, true_and]); all_goals ((repeat' (first | refine And.intro ?_ ?_ | intro _)) <;> first | omega | exact True.intro | assumption | (simp; done) | rfl | (simp_all; done) | (simp_all; omega)))) ?_
    rw [← hsg]
    clear hsg
    (refine end_intro (by first | exact .inr rfl | exact .inl rfl) [] rfl ?_)
    simp only [All, cd_p, cp_p, cv_p]
    (repeat' refine And.intro ?_ ?_) <;> first | trivial | rfl | omega | simp
  · ((try simp only [AllL, All, cd_p, cp_p, cv_p, InK, and_true, true_and]); all_goals ((repeat' (first | refine And.intro ?_ ?_ | intro _)) <;> first | omega | exact True.intro | assumption | (simp; done) | rfl | (simp_all; done) | (simp_all; omega)))
/-- The least number of a list. -/
def minL (l : List Int) : Int := l.foldl (fun m x => if x < m then x else m) (l.getD 0 0)
def minK (l : List Int) (k : Nat) : Int := (l.take k).foldl (fun m x => if x < m then x else m) (l.getD 0 0)
theorem minK_succ (l : List Int) (k : Nat) (h : k < l.length) : minK l (k + 1) = if l.getD k 0 < minK l k then l.getD k 0 else minK l k := by
  unfold minK
  rw [take_snoc _ 0 _ h, List.foldl_append]; rfl
theorem minK_one (l : List Int) (h : 0 < l.length) : minK l 1 = l.getD 0 0 := by
  rw [minK_succ l 0 h]
  simp [minK]
theorem minK_all (l : List Int) : minK l l.length = minL l := by unfold minK minL; rw [List.take_length]
def Min_i (l : List Int) (σ : Ren) : Inst := { f := 108, hin := [(0, .ro l.length 1 (.ints .i64 l))], args := [.sl 0 l.length], hout := [], ret := i64 (minL l), σ := σ }
set_option maxRecDepth 20000 in
set_option maxHeartbeats 4000000 in
theorem Min_s (l : List Int) (σ : Ren) (h : 0 < l.length) (hl : l.length ≤ 1000) : (Min_i l σ).ok Tryd.prog := by
  have h1 := minK_one l h
  unfold Min_i Inst.ok; dsimp only; refine spec_of_body (tys := tys) 1 Tryd.func108 (by kernel_rfl) rfl tys_ok rfl (Nat.le_of_ble_eq_true rfl) (fun _ _ h => (by cases h)) fun F hP hm hC => ?_; conv => whnf
  repeat first | refine lwp_seq fun K hK => ?_ | ((with_reducible refine thenS_normal ?_); apply_assumption -exfalso -symm) | refine thenS_exit ?_ | refine thenS_ret ?_ | refine inBlockS_normal ?_ | refine inBlockS_ret ?_ | refine inBlockS_hit rfl ?_ | refine inBlockS_miss rfl ?_ | refine lwp_block ?_ | refine lwp_skip ?_ | refine lwp_exit ?_ | refine lwp_ret ?_ | refine lwp_label ?_ | refine lwp_region hC ⟨[], [], []⟩ (told0 _ _) rfl True.intro ?_
  (refine lwp_cond hC rfl (by first | exact True.intro | ((try simp only [AllL, All, cd_p, cp_p, cv_p, InK, and_true, true_and]); all_goals ((repeat' (first | refine And.intro ?_ ?_ | intro _)) <;> first | omega | exact True.intro | assumption | (simp; done) | rfl | (simp_all; done) | (simp_all; omega)))) (fun hb => ?_) (fun hb => ?_) <;> (try simp only [decide_eq_true_eq, decide_eq_false_iff_not, Bool.not_eq_true', Bool.not_eq_false', ne_eq, Decidable.not_not] at hb))
  · omega
  · clear hb
    repeat first | refine lwp_seq fun K hK => ?_ | ((with_reducible refine thenS_normal ?_); apply_assumption -exfalso -symm) | refine thenS_exit ?_ | refine thenS_ret ?_ | refine inBlockS_normal ?_ | refine inBlockS_ret ?_ | refine inBlockS_hit rfl ?_ | refine inBlockS_miss rfl ?_ | refine lwp_block ?_ | refine lwp_skip ?_ | refine lwp_exit ?_ | refine lwp_ret ?_ | refine lwp_label ?_ | refine lwp_region hC ⟨[], [], []⟩ (told0 _ _) rfl True.intro ?_ | refine lwp_region hC ⟨[], [], []⟩ (told0 _ _) rfl (by ((try simp only [AllL, All, cd_p, cp_p, cv_p, InK, and_true, true_and]); all_goals ((repeat' (first | refine And.intro ?_ ?_ | intro _)) <;> first | omega | exact True.intro | assumption | (simp; done) | rfl | (simp_all; done) | (simp_all; omega)))) ?_
    refine lwp_loop (fun k : Nat => ⟨[(4, i64 (k + 1 : Nat)), (3, i64 (minK l (k + 1))), (0, .sl 0 l.length)], [(0, .ro l.length 1 (.ints .i64 l))], 1⟩) (fun k => k + 1 ≤ l.length) (fun k => l.length - k) 0 ⟨?_, sub_intro hm [(0, some 0)] rfl ?_⟩ ?_
    · omega
    · rw [h1]; ((try simp only [AllL, All, cd_p, cp_p, cv_p, InK, and_true, true_and]); all_goals ((repeat' (first | refine And.intro ?_ ?_ | intro _)) <;> first | omega | exact True.intro | assumption | (simp; done) | rfl | (simp_all; done) | (simp_all; omega)))
    rintro k hk
    have hkk : (((k + 1 : Nat) : Int)).toNat = k + 1 := Int.toNat_natCast _
    repeat first | refine lwp_seq fun K hK => ?_ | ((with_reducible refine thenS_normal ?_); apply_assumption -exfalso -symm) | refine thenS_exit ?_ | refine thenS_ret ?_ | refine inBlockS_normal ?_ | refine inBlockS_ret ?_ | refine inBlockS_hit rfl ?_ | refine inBlockS_miss rfl ?_ | refine lwp_block ?_ | refine lwp_skip ?_ | refine lwp_exit ?_ | refine lwp_ret ?_ | refine lwp_label ?_ | refine lwp_region hC ⟨[], [], []⟩ (told0 _ _) rfl True.intro ?_
    (refine lwp_cond hC rfl (by first | exact True.intro | ((try simp only [AllL, All, cd_p, cp_p, cv_p, InK, and_true, true_and]); all_goals ((repeat' (first | refine And.intro ?_ ?_ | intro _)) <;> first | omega | exact True.intro | assumption | (simp; done) | rfl | (simp_all; done) | (simp_all; omega)))) (fun hb => ?_) (fun hb => ?_) <;> (try simp only [decide_eq_true_eq, decide_eq_false_iff_not, Bool.not_eq_true', Bool.not_eq_false', ne_eq, Decidable.not_not] at hb))
    · have hk2 : k + 1 < l.length := by omega
      have hs := minK_succ l (k + 1) hk2
      have HS := Lib.hid hs
      clear hs
      repeat first | refine lwp_seq fun K hK => ?_ | ((with_reducible refine thenS_normal ?_); apply_assumption -exfalso -symm) | refine thenS_exit ?_ | refine thenS_ret ?_ | refine inBlockS_normal ?_ | refine inBlockS_ret ?_ | refine inBlockS_hit rfl ?_ | refine inBlockS_miss rfl ?_ | refine lwp_block ?_ | refine lwp_skip ?_ | refine lwp_exit ?_ | refine lwp_ret ?_ | refine lwp_label ?_ | refine lwp_region hC ⟨[], [], []⟩ (told0 _ _) rfl True.intro ?_ | refine lwp_region hC ⟨[], [], []⟩ (told0 _ _) rfl (by ((try simp only [AllL, All, cd_p, cp_p, cv_p, InK, and_true, true_and]); all_goals ((repeat' (first | refine And.intro ?_ ?_ | intro _)) <;> first | omega | exact True.intro | assumption | (simp; done) | rfl | (simp_all; done) | (simp_all; omega)))) ?_
      refine thenS_normal ⟨k + 1, ?_, ?_, sub_intro hm [(0, some 0)] rfl ?_⟩
      · omega
      · omega
      · rw [HS.out]; ((try simp only [AllL, All, cd_p, cp_p, cv_p, InK, and_true, true_and]); all_goals ((repeat' (first | refine And.intro ?_ ?_ | intro _)) <;> first | omega | exact True.intro | assumption | (simp; done) | rfl | (simp_all; done) | (simp_all; omega)))
    · have hk3 : k + 1 = l.length := by omega
      repeat first | refine lwp_seq fun K hK => ?_ | ((with_reducible refine thenS_normal ?_); apply_assumption -exfalso -symm) | refine thenS_exit ?_ | refine thenS_ret ?_ | refine inBlockS_normal ?_ | refine inBlockS_ret ?_ | refine inBlockS_hit rfl ?_ | refine inBlockS_miss rfl ?_ | refine lwp_block ?_ | refine lwp_skip ?_ | refine lwp_exit ?_ | refine lwp_ret ?_ | refine lwp_label ?_ | refine lwp_region hC ⟨[], [], []⟩ (told0 _ _) rfl True.intro ?_
      rw [hk3, minK_all]
      (refine end_intro (by first | exact .inr rfl | exact .inl rfl) [] rfl ?_)
      ((try simp only [AllL, All, cd_p, cp_p, cv_p, InK, and_true, true_and]); all_goals ((repeat' (first | refine And.intro ?_ ?_ | intro _)) <;> first | omega | exact True.intro | assumption | (simp; done) | rfl | (simp_all; done) | (simp_all; omega)))

end Go.Proofs.YtbpffadffbgloaaDoor
