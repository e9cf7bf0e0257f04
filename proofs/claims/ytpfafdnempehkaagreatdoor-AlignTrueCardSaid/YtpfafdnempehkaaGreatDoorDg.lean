/- Chapter 5: Cost, the program's. -/
import Derived.Test.YtpfafdnempehkaaGreatDoorDf
set_option linter.unusedVariables false
set_option linter.unusedSimpArgs false
namespace Go.Proofs.YtpfafdnempehkaaGreatDoor
open Go.RowKit Go.Sym

theorem firstS_cons (e : Int) (l : List Int) : firstS (e :: l) = 0 ↔ e = 0 ∧ firstS l = 0 := by
  simp only [firstS]
  split
  · rename_i h; simp [h]
  · rename_i h; simp [h]
theorem whenS_zero {b : Bool} {e : Int} (he : e ≠ 0) : whenS b e = 0 ↔ b = false := by
  unfold whenS; cases b <;> simp [he]
theorem withinS_zero {n lo hi : Int} : withinS n lo hi = 0 ↔ lo ≤ n ∧ n ≤ hi := by
  unfold withinS; split <;> omega
theorem thS_zero {x : Th} {last : Int} : thS x last = 0 ↔ nameOk x.kind = true ∧ (0 ≤ x.place ∧ x.place ≤ 100000000) ∧ last < x.place := by
  unfold thS
  rw [firstS_cons, firstS_cons, firstS_cons, whenS_zero (by decide), whenS_zero (by decide), withinS_zero]
  simp [firstS]
theorem thingsS_zero : ∀ {l : List Th} {last : Int}, thingsS l last = 0 → ∀ x ∈ l, nameOk x.kind = true ∧ 0 ≤ x.place ∧ x.place ≤ 100000000
  | [], _, _, x, hx => by cases hx
  | y :: l, last, h, x, hx => by
    simp only [thingsS] at h
    split at h
    · rename_i hy
      rcases List.mem_cons.1 hx with rfl | hx
      · have := thS_zero.1 hy; exact ⟨this.1, this.2.1⟩
      · exact thingsS_zero h x hx
    · rename_i hy; exact absurd h hy
theorem checkS_zero {l : List Th} (h : checkS l = 0) : l.length ≤ 64 ∧ placesOk l := by
  unfold checkS at h
  split at h
  · cases h
  · refine ⟨by omega, fun i => ?_⟩
    unfold thAt
    rw [List.getD_eq_getElem?_getD]
    cases hi : l[i.toNat]? with
    | none => simp [thD]
    | some x => exact (thingsS_zero h x (List.mem_of_getElem? hi)).2
theorem pairsS_zero {m s : List Th} : ∀ {l : List (Int × Int)} {b : Int × Int}, pairsS m s l b = 0 → ∀ p ∈ l, inS m s p
  | [], _, _, p, hp => by cases hp
  | q :: l, b, h, p, hp => by
    simp only [pairsS] at h
    split at h
    · cases h
    · rename_i ho
      split at h
      · rcases List.mem_cons.1 hp with rfl | hp
        · exact outS_in (by simpa using ho)
        · exact pairsS_zero h p hp
      · rename_i hy; exact absurd h hy

def costE (m s : List Th) (c : Cs) (l : List (Int × Int)) : Int := firstS [rideS m s, costsS c.missed c.unseen c.stretch, checkPairsS m s l]
theorem rideS_zero {m s : List Th} (h : rideS m s = 0) : checkS m = 0 ∧ checkS s = 0 := by
  unfold rideS at h
  rw [firstS_cons, firstS_cons] at h
  exact ⟨h.1, h.2.1⟩
theorem costsS_zero {a b c : Int} : costsS a b c = 0 ↔ (0 ≤ a ∧ a ≤ 1000) ∧ (0 ≤ b ∧ b ≤ 1000) ∧ 0 ≤ c ∧ c ≤ 1000 := by
  unfold costsS
  rw [firstS_cons, firstS_cons, firstS_cons, withinS_zero, withinS_zero, withinS_zero]
  simp [firstS]
theorem fit_of {m s : List Th} {c : Cs} {l : List (Int × Int)} (h : costE m s c l = 0) : Fit m s c l := by
  unfold costE at h
  rw [firstS_cons, firstS_cons, firstS_cons] at h
  obtain ⟨h1, h2, h3, _⟩ := h
  obtain ⟨h4, h5⟩ := rideS_zero h1
  unfold checkPairsS at h3
  split at h3
  · rename_i hf
    unfold frontS at hf
    rw [firstS_cons, firstS_cons, whenS_zero (by decide)] at hf
    have hl : l.length ≤ 64 := by have := of_decide_eq_false hf.2.1; omega
    refine ⟨costsS_zero.1 h2, (checkS_zero h4).1, (checkS_zero h5).1, hl, (checkS_zero h4).2, (checkS_zero h5).2, fun i hi => pairsS_zero h3 _ ?_⟩
    unfold prAt
    rw [List.getD_eq_getElem?_getD, List.getElem?_eq_getElem hi]
    exact List.getElem_mem hi
  · rename_i hf; exact absurd h3 hf

def costR (m s : List Th) (c : Cs) (l : List (Int × Int)) : Int := if costE m s c l = 0 then costS m s c l else 0
def Cost_i (m s : List Th) (c : Cs) (l : List (Int × Int)) (σ : Ren) : Inst := { f := 14, hin := costIn m s l, args := [rdA m s, csA c, .sl 2 l.length], hout := [], ret := .tup [i64 (costR m s c l), i64 (costE m s c l)], σ := σ }
theorem Cost_s (m s : List Th) (c : Cs) (l : List (Int × Int)) (σ : Ren) (hm' : m.length ≤ 1000000) (hs : s.length ≤ 1000000) (hl : l.length ≤ 1000000) : (Cost_i m s c l σ).ok Tryz.prog := by
  unfold Cost_i Inst.ok; dsimp only; refine spec_of_body (tys := tys) 3 Tryz.func14 (by kernel_rfl) rfl tys_ok rfl (Nat.le_of_ble_eq_true rfl) (fun _ _ h => (by cases h)) fun F hP hm hC hrd => ?_; conv => whnf
  (repeat (first | (refine lwp_seq fun K hK => ?_) | (refine thenS_normal ?_; apply_assumption -exfalso -symm) | (refine thenS_exit ?_) | (refine thenS_ret ?_) | (refine inBlockS_normal ?_) | (refine inBlockS_ret ?_) | (refine inBlockS_hit rfl ?_) | (refine inBlockS_miss rfl ?_) | (refine lwp_block ?_) | (refine lwp_skip ?_) | (refine lwp_exit ?_) | (refine lwp_ret ?_) | (refine lwp_label ?_) | (refine lwp_region hC ⟨[], [], []⟩ (told0 _ _) rfl True.intro ?_) | (refine lwp_region hC ⟨[], [], []⟩ (told0 _ _) rfl (by ((try simp only [AllL, All, cd_p, cp_p, cv_p, InK, and_true, true_and]); all_goals ((repeat' (first | refine And.intro ?_ ?_ | intro _)) <;> first | omega | exact True.intro | assumption | (simp; done) | rfl | (simp_all; done) | (simp_all; omega)))) ?_)))
  (refine lwp_drawn hC (by rw [hP]; exact mixed) ⟨[], [], [(1, Ride_i m s [(0, some 0), (1, some 1)]), (3, Costs_i c.missed c.unseen c.stretch), (6, Pairs_i m s l [(0, some 0), (1, some 1), (2, some 2)]), (8, AFirst_i [rideS m s, costsS c.missed c.unseen c.stretch, checkPairsS m s l] [(0, some 5)])]⟩ (told1 _ (by rw [hP]; exact (calls_cons (Ride_s _ _ _ hm' hs) (calls_cons (Costs_s _ _ _) (calls_cons (Pairs_s _ _ _ _ hm' hs hl) (calls_cons (AFirst_s _ _ (by simp)) calls_nil)))))) [0, 1, 0, 7, 0, 0, 63, 127, 255, 511] 6 rfl ?_ ?_; rotate_left 1)
  · (repeat (first | (refine lwp_seq fun K hK => ?_) | (refine thenS_normal ?_; apply_assumption -exfalso -symm) | (refine thenS_exit ?_) | (refine thenS_ret ?_) | (refine inBlockS_normal ?_) | (refine inBlockS_ret ?_) | (refine inBlockS_hit rfl ?_) | (refine inBlockS_miss rfl ?_) | (refine lwp_block ?_) | (refine lwp_skip ?_) | (refine lwp_exit ?_) | (refine lwp_ret ?_) | (refine lwp_label ?_) | (refine lwp_region hC ⟨[], [], []⟩ (told0 _ _) rfl True.intro ?_) | (refine lwp_region hC ⟨[], [], []⟩ (told0 _ _) rfl (by ((try simp only [AllL, All, cd_p, cp_p, cv_p, InK, and_true, true_and]); all_goals ((repeat' (first | refine And.intro ?_ ?_ | intro _)) <;> first | omega | exact True.intro | assumption | (simp; done) | rfl | (simp_all; done) | (simp_all; omega)))) ?_)))
    (refine lwp_cond hC rfl (by first | exact True.intro | ((try simp only [AllL, All, cd_p, cp_p, cv_p, InK, and_true, true_and]); all_goals ((repeat' (first | refine And.intro ?_ ?_ | intro _)) <;> first | omega | exact True.intro | assumption | (simp; done) | rfl | (simp_all; done) | (simp_all; omega)))) (fun hb => ?_) (fun hb => ?_) <;> (try simp only [decide_eq_true_eq, decide_eq_false_iff_not, Bool.not_eq_true', Bool.not_eq_false', ne_eq, Decidable.not_not] at hb))
    · (repeat (first | (refine lwp_seq fun K hK => ?_) | (refine thenS_normal ?_; apply_assumption -exfalso -symm) | (refine thenS_exit ?_) | (refine thenS_ret ?_) | (refine inBlockS_normal ?_) | (refine inBlockS_ret ?_) | (refine inBlockS_hit rfl ?_) | (refine inBlockS_miss rfl ?_) | (refine lwp_block ?_) | (refine lwp_skip ?_) | (refine lwp_exit ?_) | (refine lwp_ret ?_) | (refine lwp_label ?_) | (refine lwp_region hC ⟨[], [], []⟩ (told0 _ _) rfl True.intro ?_) | (refine lwp_region hC ⟨[], [], []⟩ (told0 _ _) rfl (by ((try simp only [AllL, All, cd_p, cp_p, cv_p, InK, and_true, true_and]); all_goals ((repeat' (first | refine And.intro ?_ ?_ | intro _)) <;> first | omega | exact True.intro | assumption | (simp; done) | rfl | (simp_all; done) | (simp_all; omega)))) ?_)))
      (refine end_intro (by first | exact .inr rfl | exact .inl rfl) [] rfl ?_)
      have hb' : ¬ costE m s c l = 0 := hb
      refine ⟨rfl, ?_, trivial⟩
      show costR m s c l = 0
      unfold costR
      rw [if_neg hb']
    · have hb' : costE m s c l = 0 := hb
      (repeat (first | (refine lwp_seq fun K hK => ?_) | (refine thenS_normal ?_; apply_assumption -exfalso -symm) | (refine thenS_exit ?_) | (refine thenS_ret ?_) | (refine inBlockS_normal ?_) | (refine inBlockS_ret ?_) | (refine inBlockS_hit rfl ?_) | (refine inBlockS_miss rfl ?_) | (refine lwp_block ?_) | (refine lwp_skip ?_) | (refine lwp_exit ?_) | (refine lwp_ret ?_) | (refine lwp_label ?_) | (refine lwp_region hC ⟨[], [], []⟩ (told0 _ _) rfl True.intro ?_) | (refine lwp_region hC ⟨[], [], []⟩ (told0 _ _) rfl (by ((try simp only [AllL, All, cd_p, cp_p, cv_p, InK, and_true, true_and]); all_goals ((repeat' (first | refine And.intro ?_ ?_ | intro _)) <;> first | omega | exact True.intro | assumption | (simp; done) | rfl | (simp_all; done) | (simp_all; omega)))) ?_)))
      (refine lwp_region hC ⟨[], [], [(3, RCost_i m s c l [(0, some 0), (1, some 1), (2, some 2)])]⟩ (told1 _ (by rw [hP]; exact (calls_cons (RCost_s _ _ _ _ _ (fit_of hb')) calls_nil))) rfl ?_ ?_; rotate_left 1)
      · (repeat (first | (refine lwp_seq fun K hK => ?_) | (refine thenS_normal ?_; apply_assumption -exfalso -symm) | (refine thenS_exit ?_) | (refine thenS_ret ?_) | (refine inBlockS_normal ?_) | (refine inBlockS_ret ?_) | (refine inBlockS_hit rfl ?_) | (refine inBlockS_miss rfl ?_) | (refine lwp_block ?_) | (refine lwp_skip ?_) | (refine lwp_exit ?_) | (refine lwp_ret ?_) | (refine lwp_label ?_) | (refine lwp_region hC ⟨[], [], []⟩ (told0 _ _) rfl True.intro ?_) | (refine lwp_region hC ⟨[], [], []⟩ (told0 _ _) rfl (by ((try simp only [AllL, All, cd_p, cp_p, cv_p, InK, and_true, true_and]); all_goals ((repeat' (first | refine And.intro ?_ ?_ | intro _)) <;> first | omega | exact True.intro | assumption | (simp; done) | rfl | (simp_all; done) | (simp_all; omega)))) ?_)))
        (refine end_intro (by first | exact .inr rfl | exact .inl rfl) [] rfl ?_)
        refine ⟨hb', ?_, trivial⟩
        show costR m s c l = costS m s c l
        unfold costR
        rw [if_pos hb']
      · ((try simp only [AllL, All, cd_p, cp_p, cv_p, InK, and_true, true_and]); all_goals ((repeat' (first | refine And.intro ?_ ?_ | intro _)) <;> first | omega | exact True.intro | assumption | (simp; done) | rfl | (simp_all; done) | (simp_all; omega)))
  · ((try simp only [AllL, All, cd_p, cp_p, cv_p, InK, and_true, true_and]); all_goals ((repeat' (first | refine And.intro ?_ ?_ | intro _)) <;> first | omega | exact True.intro | assumption | (simp; done) | rfl | (simp_all; done) | (simp_all; omega)))

end Go.Proofs.YtpfafdnempehkaaGreatDoor
