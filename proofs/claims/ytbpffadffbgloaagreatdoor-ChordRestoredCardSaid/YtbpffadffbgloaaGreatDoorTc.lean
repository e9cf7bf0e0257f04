/- Contracts of the program, in the runs' style: end, add, alike, Reversed, Sum. -/
import Derived.Test.YtbpffadffbgloaaGreatDoorTa
set_option linter.unusedVariables false
set_option linter.unusedSimpArgs false
namespace Go.Proofs.YtbpffadffbgloaaGreatDoor
open Go.RowKit Go.Sym

def PEnd_i (t : Tr) (σ : Ren) : Inst := { f := 61, hin := trIn t, args := [trA 0 1 t], hout := [], ret := i64 (t.first + t.vals.length), σ := σ }
theorem PEnd_s (t : Tr) (σ : Ren) (h0 : 0 ≤ t.first) (h1 : t.first ≤ 100000000) (h2 : t.vals.length ≤ 1000000) : (PEnd_i t σ).ok Tryz.prog := by
  unfold PEnd_i Inst.ok; dsimp only; refine spec_of_body (tys := tys) 2 Tryz.func61 (by kernel_rfl) rfl tys_ok rfl (Nat.le_of_ble_eq_true rfl) (fun _ _ h => (by cases h)) fun F hP hm hC => ?_; conv => whnf
  (repeat (first | (refine lwp_seq fun K hK => ?_) | (refine thenS_normal ?_; apply_assumption -exfalso -symm) | (refine thenS_exit ?_) | (refine thenS_ret ?_) | (refine inBlockS_normal ?_) | (refine inBlockS_ret ?_) | (refine inBlockS_hit rfl ?_) | (refine inBlockS_miss rfl ?_) | (refine lwp_block ?_) | (refine lwp_skip ?_) | (refine lwp_exit ?_) | (refine lwp_ret ?_) | (refine lwp_label ?_) | (refine lwp_region hC ⟨[], [], []⟩ (told0 _ _) rfl True.intro ?_) | (refine lwp_region hC ⟨[], [], []⟩ (told0 _ _) rfl (by ((try simp only [AllL, All, cd_p, cp_p, cv_p, InK, and_true, true_and]); all_goals ((repeat' (first | refine And.intro ?_ ?_ | intro _)) <;> first | omega | exact True.intro | assumption | (simp; done) | rfl | (simp_all; done) | (simp_all; omega)))) ?_)))
  (refine end_intro (by first | exact .inr rfl | exact .inl rfl) [] rfl ?_)
  ((try simp only [AllL, All, cd_p, cp_p, cv_p, InK, and_true, true_and]); all_goals ((repeat' (first | refine And.intro ?_ ?_ | intro _)) <;> first | omega | exact True.intro | assumption | (simp; done) | rfl | (simp_all; done) | (simp_all; omega)))
def PAlike_i (s t : Tr) (σ : Ren) : Inst := { f := 81, hin := hin4 s t, args := [trA 0 1 s, trA 2 3 t], hout := [], ret := bl (alikeS s t), σ := σ }
theorem PAlike_s (s t : Tr) (σ : Ren) : (PAlike_i s t σ).ok Tryz.prog := by
  refine ⟨⟨_, Tryz.func81, rfl⟩, fun ρ w vs hdom _ hh hd => ?_⟩
  obtain ⟨L1, L2, p1, p2, hr⟩ := tr_args (i := 0) (j := 1) hh rfl rfl
  obtain ⟨L3, L4, p3, p4, hr'⟩ := tr_args (i := 2) (j := 3) hh rfl rfl
  simp only [PAlike_i, trA, AV.denL, AV.den, p1, p2, p3, p4, Option.map_some, listO, Option.some.injEq] at hd
  subst hd
  refine (alike_c _ _ _ _ s t w hr hr').mono ?_
  rintro e w' ⟨rfl, hb⟩
  exact post_of_lit hb

/-- A trace that is being made: its place, and its two lists. -/
def addIn (f : Int) (A : List Int × List (Int × Int)) : List (Nat × Chunk) := [(0, .blk 29 [i64 f, .sl 1 A.1.length, .sl 2 A.2.length]), (1, .row 3 A.1.length 1 (.ints .i64 A.1)), (2, .row 102 A.2.length 2 (spC A.2))]
def addOut (f : Int) (A : List Int × List (Int × Int)) : List (Nat × Chunk) := [(0, .blk 29 [i64 f, .sl 3 A.1.length, .sl 4 A.2.length]), (3, .row 3 A.1.length 1 (.ints .i64 A.1)), (4, .row 102 A.2.length 2 (spC A.2))]
def PAdd_i (f x : Int) (kn : Bool) (A : List Int × List (Int × Int)) (σ : Ren) : Inst := { f := 78, hin := addIn f A, args := [.ptr 0 0 0 0, i64 x, bl kn], hout := addOut f (addS A (x, kn)), ret := .tup [], σ := σ }
set_option maxRecDepth 20000 in
set_option maxHeartbeats 4000000 in
theorem PAdd_s (f x : Int) (kn : Bool) (A : List Int × List (Int × Int)) (σ : Ren) (h1 : A.1.length ≤ 100000) (h2 : A.2.length ≤ 100000) : (PAdd_i f x kn A σ).ok Tryz.prog := by
  unfold PAdd_i Inst.ok; dsimp only; refine spec_of_body (tys := tys) 3 Tryz.func78 (by kernel_rfl) rfl tys_ok rfl (Nat.le_of_ble_eq_true rfl) (fun _ _ h => (by cases h)) fun F hP hm hC => ?_; conv => whnf
  (repeat (first | (refine lwp_seq fun K hK => ?_) | (refine thenS_normal ?_; apply_assumption -exfalso -symm) | (refine thenS_exit ?_) | (refine thenS_ret ?_) | (refine inBlockS_normal ?_) | (refine inBlockS_ret ?_) | (refine inBlockS_hit rfl ?_) | (refine inBlockS_miss rfl ?_) | (refine lwp_block ?_) | (refine lwp_skip ?_) | (refine lwp_exit ?_) | (refine lwp_ret ?_) | (refine lwp_label ?_) | (refine lwp_region hC ⟨[], [], []⟩ (told0 _ _) rfl True.intro ?_) | (refine lwp_region hC ⟨[], [], []⟩ (told0 _ _) rfl (by ((try simp only [AllL, All, cd_p, cp_p, cv_p, InK, and_true, true_and]); all_goals ((repeat' (first | refine And.intro ?_ ?_ | intro _)) <;> first | omega | exact True.intro | assumption | (simp; done) | rfl | (simp_all; done) | (simp_all; omega)))) ?_)))
  (refine lwp_cond hC rfl (by first | exact True.intro | ((try simp only [AllL, All, cd_p, cp_p, cv_p, InK, and_true, true_and]); all_goals ((repeat' (first | refine And.intro ?_ ?_ | intro _)) <;> first | omega | exact True.intro | assumption | (simp; done) | rfl | (simp_all; done) | (simp_all; omega)))) (fun hb => ?_) (fun hb => ?_) <;> (try simp only [decide_eq_true_eq, decide_eq_false_iff_not, Bool.not_eq_true', Bool.not_eq_false', ne_eq, Decidable.not_not] at hb))
  · have hA : addS A (x, kn) = (A.1 ++ [x], A.2) := by unfold addS; rw [hb]; rfl
    rw [hA]
    (repeat (first | (refine lwp_seq fun K hK => ?_) | (refine thenS_normal ?_; apply_assumption -exfalso -symm) | (refine thenS_exit ?_) | (refine thenS_ret ?_) | (refine inBlockS_normal ?_) | (refine inBlockS_ret ?_) | (refine inBlockS_hit rfl ?_) | (refine inBlockS_miss rfl ?_) | (refine lwp_block ?_) | (refine lwp_skip ?_) | (refine lwp_exit ?_) | (refine lwp_ret ?_) | (refine lwp_label ?_) | (refine lwp_region hC ⟨[], [], []⟩ (told0 _ _) rfl True.intro ?_) | (refine lwp_region hC ⟨[], [], []⟩ (told0 _ _) rfl (by ((try simp only [AllL, All, cd_p, cp_p, cv_p, InK, and_true, true_and]); all_goals ((repeat' (first | refine And.intro ?_ ?_ | intro _)) <;> first | omega | exact True.intro | assumption | (simp; done) | rfl | (simp_all; done) | (simp_all; omega)))) ?_)))
    (refine end_intro (by first | exact .inr rfl | exact .inl rfl) [(0, some 0), (3, some 4), (4, some 2)] rfl ?_)
    ((try simp only [AllL, All, cd_p, cp_p, cv_p, InK, and_true, true_and]); all_goals ((repeat' (first | refine And.intro ?_ ?_ | intro _)) <;> first | omega | exact True.intro | assumption | (simp; done) | rfl | (simp_all; done) | (simp_all; omega)))
  · have hx : kn = false := hb
    clear hb
    subst hx
    (repeat (first | (refine lwp_seq fun K hK => ?_) | (refine thenS_normal ?_; apply_assumption -exfalso -symm) | (refine thenS_exit ?_) | (refine thenS_ret ?_) | (refine inBlockS_normal ?_) | (refine inBlockS_ret ?_) | (refine inBlockS_hit rfl ?_) | (refine inBlockS_miss rfl ?_) | (refine lwp_block ?_) | (refine lwp_skip ?_) | (refine lwp_exit ?_) | (refine lwp_ret ?_) | (refine lwp_label ?_) | (refine lwp_region hC ⟨[], [], []⟩ (told0 _ _) rfl True.intro ?_) | (refine lwp_region hC ⟨[], [], []⟩ (told0 _ _) rfl (by ((try simp only [AllL, All, cd_p, cp_p, cv_p, InK, and_true, true_and]); all_goals ((repeat' (first | refine And.intro ?_ ?_ | intro _)) <;> first | omega | exact True.intro | assumption | (simp; done) | rfl | (simp_all; done) | (simp_all; omega)))) ?_)))
    (refine lwp_cond hC rfl (by first | exact True.intro | ((try simp only [AllL, All, cd_p, cp_p, cv_p, InK, and_true, true_and]); all_goals ((repeat' (first | refine And.intro ?_ ?_ | intro _)) <;> first | omega | exact True.intro | assumption | (simp; done) | rfl | (simp_all; done) | (simp_all; omega)))) (fun hb => ?_) (fun hb => ?_) <;> (try simp only [decide_eq_true_eq, decide_eq_false_iff_not, Bool.not_eq_true', Bool.not_eq_false', ne_eq, Decidable.not_not] at hb))
    · rw [bif_and, Bool.and_eq_true, decide_eq_true_eq, decide_eq_true_eq] at hb
      have hm0 : 0 < A.2.length := by omega
      have hmm : ((A.2.length : Int) - 1).toNat = A.2.length - 1 := by omega
      rw [hmm] at hb
      have hA : addS A (x, false) = (A.1 ++ [0], A.2.set (A.2.length - 1) ((A.2.getD (A.2.length - 1) (0, 0)).1, (A.1.length : Int) + 1)) := by unfold addS; rw [holesAdd_join _ _ hm0 hb.2]; rfl
      have hcell := genL_set (f := fun p : Int × Int => [Value.int .i64 p.1, Value.int .i64 p.2]) (d := (0, 0)) (sz := 2) A.2 (A.2.length - 1) 1 [.int .i64 ((A.1.length : Int) + 1)] ((A.2.getD (A.2.length - 1) (0, 0)).1, (A.1.length : Int) + 1) (by omega) rfl
      rw [hA]
      have hlen : (A.2.set (A.2.length - 1) ((A.2.getD (A.2.length - 1) (0, 0)).1, (A.1.length : Int) + 1)).length = A.2.length := by simp
      (repeat (first | (refine lwp_seq fun K hK => ?_) | (refine thenS_normal ?_; apply_assumption -exfalso -symm) | (refine thenS_exit ?_) | (refine thenS_ret ?_) | (refine inBlockS_normal ?_) | (refine inBlockS_ret ?_) | (refine inBlockS_hit rfl ?_) | (refine inBlockS_miss rfl ?_) | (refine lwp_block ?_) | (refine lwp_skip ?_) | (refine lwp_exit ?_) | (refine lwp_ret ?_) | (refine lwp_label ?_) | (refine lwp_region hC ⟨[], [], []⟩ (told0 _ _) rfl True.intro ?_) | (refine lwp_region hC ⟨[], [], []⟩ (told0 _ _) rfl (by ((try simp only [AllL, All, cd_p, cp_p, cv_p, InK, and_true, true_and]); all_goals ((repeat' (first | refine And.intro ?_ ?_ | intro _)) <;> first | omega | exact True.intro | assumption | (simp; done) | rfl | (simp_all; done) | (simp_all; omega)))) ?_)))
      (refine end_intro (by first | exact .inr rfl | exact .inl rfl) [(0, some 0), (3, some 4), (4, some 2)] rfl ?_)
      rw [hmm, hlen]
      simp only [All, cd_p, cp_p, cv_p]
      (repeat' refine And.intro ?_ ?_) <;> first | (rw [hb.2]; exact hcell) | exact hcell | omega | (simp; done)
    · rw [bif_and] at hb
      have hnew : 0 < A.2.length → (A.2.getD (A.2.length - 1) (0, 0)).2 ≠ (A.1.length : Int) := by
        intro h0 e
        have hmm : ((A.2.length : Int) - 1).toNat = A.2.length - 1 := by omega
        rw [hmm, decide_eq_true (show (0 : Int) < (A.2.length : Int) by omega), decide_eq_true e] at hb
        cases hb
      have hA : addS A (x, false) = (A.1 ++ [0], A.2 ++ [((A.1.length : Int), (A.1.length : Int) + 1)]) := by unfold addS; rw [holesAdd_new _ _ hnew]; rfl
      rw [hA]
      have hcell := spC_snoc A.2 ((A.1.length : Int), (A.1.length : Int) + 1)
      clear hnew hb
      (repeat (first | (refine lwp_seq fun K hK => ?_) | (refine thenS_normal ?_; apply_assumption -exfalso -symm) | (refine thenS_exit ?_) | (refine thenS_ret ?_) | (refine inBlockS_normal ?_) | (refine inBlockS_ret ?_) | (refine inBlockS_hit rfl ?_) | (refine inBlockS_miss rfl ?_) | (refine lwp_block ?_) | (refine lwp_skip ?_) | (refine lwp_exit ?_) | (refine lwp_ret ?_) | (refine lwp_label ?_) | (refine lwp_region hC ⟨[], [], []⟩ (told0 _ _) rfl True.intro ?_) | (refine lwp_region hC ⟨[], [], []⟩ (told0 _ _) rfl (by ((try simp only [AllL, All, cd_p, cp_p, cv_p, InK, and_true, true_and]); all_goals ((repeat' (first | refine And.intro ?_ ?_ | intro _)) <;> first | omega | exact True.intro | assumption | (simp; done) | rfl | (simp_all; done) | (simp_all; omega)))) ?_)))
      (refine end_intro (by first | exact .inr rfl | exact .inl rfl) [(0, some 0), (3, some 4), (4, some 7)] rfl ?_)
      have hcell2 : (spC (A.2 ++ [((A.1.length : Int), (A.1.length : Int) + 1)])).cells = (catC (spC A.2) (Cont.exp [i64 (A.1.length : Int), i64 ((A.1.length : Int) + 1)])).cells := by rw [catC_cells, hcell]; rfl
      simp only [All, cd_p, cp_p, cv_p]
      rw [hA]
      (repeat' refine And.intro ?_ ?_) <;> first | exact hcell2 | omega | (simp; done)

theorem knS_at {n : Nat} (hs : List (Int × Int)) {i : Nat} (h : i < n) : (knS n hs).getD i false = knownB hs i := by
  rw [List.getD_eq_getElem?_getD, knS_get _ _ _ h]; rfl
theorem any_take_succ {L : List (Int × Bool)} {k : Nat} (h : k < L.length) : (L.take (k + 1)).any badS = ((L.take k).any badS || badS (L.getD k (0, false))) := by rw [take_snoc _ (0, false) _ h]; simp

end Go.Proofs.YtbpffadffbgloaaGreatDoor
