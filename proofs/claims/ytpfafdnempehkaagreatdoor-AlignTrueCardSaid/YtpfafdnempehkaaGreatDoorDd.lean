/- Chapter 5: pairs, the program's check of them and what they cost. -/
import Derived.Test.YtpfafdnempehkaaGreatDoorDc
set_option linter.unusedVariables false
set_option linter.unusedSimpArgs false
namespace Go.Proofs.YtpfafdnempehkaaGreatDoor
open Go.RowKit Go.Sym

def prV (p : Int × Int) : List Value := [.int .i64 p.1, .int .i64 p.2]
def prC (l : List (Int × Int)) : Cont := genL prV (0, 0) 2 l
def prA (p : Int × Int) : AV := .agg [i64 p.1, i64 p.2]
structure Cs where
  missed : Int
  unseen : Int
  stretch : Int
def csA (c : Cs) : AV := .agg [i64 c.missed, i64 c.unseen, i64 c.stretch]
def rdA (m s : List Th) : AV := .agg [.sl 0 m.length, .sl 1 s.length]
def thAt (l : List Th) (i : Int) : Th := l.getD i.toNat thD

def Far_i (a b : Int) : Inst := { f := 85, hin := [], args := [i64 a, i64 b], hout := [], ret := i64 (max (a - b) (b - a)), σ := [] }
theorem Far_s (a b : Int) (ha : -1000000000 ≤ a ∧ a ≤ 1000000000) (hb : -1000000000 ≤ b ∧ b ≤ 1000000000) : (Far_i a b).ok Tryz.prog := by
  unfold Far_i Inst.ok; dsimp only; refine spec_of_body (tys := tys) 0 Tryz.func85 (by kernel_rfl) rfl tys_ok rfl (Nat.le_of_ble_eq_true rfl) (fun _ _ h => (by cases h)) fun F hP hm hC hrd => ?_; conv => whnf
  (repeat (first | (refine lwp_seq fun K hK => ?_) | (refine thenS_normal ?_; apply_assumption -exfalso -symm) | (refine thenS_exit ?_) | (refine thenS_ret ?_) | (refine inBlockS_normal ?_) | (refine inBlockS_ret ?_) | (refine inBlockS_hit rfl ?_) | (refine inBlockS_miss rfl ?_) | (refine lwp_block ?_) | (refine lwp_skip ?_) | (refine lwp_exit ?_) | (refine lwp_ret ?_) | (refine lwp_label ?_) | (refine lwp_region hC ⟨[], [], []⟩ (told0 _ _) rfl True.intro ?_) | (refine lwp_region hC ⟨[], [], []⟩ (told0 _ _) rfl (by ((try simp only [AllL, All, cd_p, cp_p, cv_p, InK, and_true, true_and]); all_goals ((repeat' (first | refine And.intro ?_ ?_ | intro _)) <;> first | omega | exact True.intro | assumption | (simp; done) | rfl | (simp_all; done) | (simp_all; omega)))) ?_)))
  all_goals first | ((try simp only [AllL, All, cd_p, cp_p, cv_p, InK, and_true, true_and]); all_goals ((repeat' (first | refine And.intro ?_ ?_ | intro _)) <;> first | omega | exact True.intro | assumption | (simp; done) | rfl | (simp_all; done) | (simp_all; omega))) | skip
  (refine end_intro (by first | exact .inr rfl | exact .inl rfl) [] rfl ?_)
  refine ⟨?_, trivial⟩
  show max (a - b) (b - a) = if b - a > a - b then b - a else a - b
  split <;> omega

def alikeS (m s : List Th) (p : Int × Int) : Bool := decide ((thAt s p.1).kind = (thAt m p.2).kind)
def inS (m s : List Th) (p : Int × Int) : Prop := (0 ≤ p.1 ∧ p.1 < s.length) ∧ 0 ≤ p.2 ∧ p.2 < m.length
def Alike_i (m s : List Th) (p : Int × Int) (σ : Ren) : Inst := { f := 92, hin := rideIn m s, args := [rdA m s, prA p], hout := [], ret := bl (alikeS m s p), σ := σ }
theorem Alike_s (m s : List Th) (p : Int × Int) (σ : Ren) (hm' : m.length ≤ 1000000) (hs : s.length ≤ 1000000) (hp : inS m s p) : (Alike_i m s p σ).ok Tryz.prog := by
  obtain ⟨⟨h1, h2⟩, h3, h4⟩ := hp
  unfold Alike_i Inst.ok; dsimp only; refine spec_of_body (tys := tys) 2 Tryz.func92 (by kernel_rfl) rfl tys_ok rfl (Nat.le_of_ble_eq_true rfl) (fun _ _ h => (by cases h)) fun F hP hm hC hrd => ?_; conv => whnf
  (repeat (first | (refine lwp_seq fun K hK => ?_) | (refine thenS_normal ?_; apply_assumption -exfalso -symm) | (refine thenS_exit ?_) | (refine thenS_ret ?_) | (refine inBlockS_normal ?_) | (refine inBlockS_ret ?_) | (refine inBlockS_hit rfl ?_) | (refine inBlockS_miss rfl ?_) | (refine lwp_block ?_) | (refine lwp_skip ?_) | (refine lwp_exit ?_) | (refine lwp_ret ?_) | (refine lwp_label ?_) | (refine lwp_region hC ⟨[], [], []⟩ (told0 _ _) rfl True.intro ?_) | (refine lwp_region hC ⟨[], [], []⟩ (told0 _ _) rfl (by ((try simp only [AllL, All, cd_p, cp_p, cv_p, InK, and_true, true_and]); all_goals ((repeat' (first | refine And.intro ?_ ?_ | intro _)) <;> first | omega | exact True.intro | assumption | (simp; done) | rfl | (simp_all; done) | (simp_all; omega)))) ?_)))
  (refine lwp_drawn hC (by rw [hP]; exact mixed) ⟨[], [], []⟩ (told0 _ _) [0, 1, 0, 4, 15, 31, 63, 0, 128, 0, 512, 1920, 3968, 8064, 16383, 32767] 14 rfl ?_ ?_; rotate_left 1)
  · (repeat (first | (refine lwp_seq fun K hK => ?_) | (refine thenS_normal ?_; apply_assumption -exfalso -symm) | (refine thenS_exit ?_) | (refine thenS_ret ?_) | (refine inBlockS_normal ?_) | (refine inBlockS_ret ?_) | (refine inBlockS_hit rfl ?_) | (refine inBlockS_miss rfl ?_) | (refine lwp_block ?_) | (refine lwp_skip ?_) | (refine lwp_exit ?_) | (refine lwp_ret ?_) | (refine lwp_label ?_) | (refine lwp_region hC ⟨[], [], []⟩ (told0 _ _) rfl True.intro ?_) | (refine lwp_region hC ⟨[], [], []⟩ (told0 _ _) rfl (by ((try simp only [AllL, All, cd_p, cp_p, cv_p, InK, and_true, true_and]); all_goals ((repeat' (first | refine And.intro ?_ ?_ | intro _)) <;> first | omega | exact True.intro | assumption | (simp; done) | rfl | (simp_all; done) | (simp_all; omega)))) ?_)))
    (refine end_intro (by first | exact .inr rfl | exact .inl rfl) [] rfl ?_)
    exact ⟨rfl, trivial⟩
  · ((try simp only [AllL, All, cd_p, cp_p, cv_p, InK, and_true, true_and]); all_goals ((repeat' (first | refine And.intro ?_ ?_ | intro _)) <;> first | omega | exact True.intro | assumption | (simp; done) | rfl | (simp_all; done) | (simp_all; omega)))

def endsS (s : List Th) (c : Cs) (a b : Int × Int) : List Int := [c.missed * a.1, c.missed * (s.length - 1 - b.1)]
/-- Costs and pairs whose sums are no greater than numbers can be. -/
def csOk (c : Cs) : Prop := (0 ≤ c.missed ∧ c.missed ≤ 1000) ∧ (0 ≤ c.unseen ∧ c.unseen ≤ 1000) ∧ 0 ≤ c.stretch ∧ c.stretch ≤ 1000
theorem mul_small {a b : Int} (ha : 0 ≤ a ∧ a ≤ 1000) (hb : -4000000000 ≤ b ∧ b ≤ 4000000000) : -4000000000000 ≤ a * b ∧ a * b ≤ 4000000000000 := by
  have h1 : a * b ≤ a * 4000000000 := Int.mul_le_mul_of_nonneg_left hb.2 ha.1
  have h2 : a * (-4000000000) ≤ a * b := Int.mul_le_mul_of_nonneg_left hb.1 ha.1
  omega
def Ends_i (m s : List Th) (c : Cs) (a b : Int × Int) (σ : Ren) : Inst := { f := 48, hin := rideIn m s, args := [rdA m s, csA c, prA a, prA b], hout := [], ret := .agg [i64 (c.missed * a.1), i64 (c.missed * (s.length - 1 - b.1))], σ := σ }
theorem Ends_s (m s : List Th) (c : Cs) (a b : Int × Int) (σ : Ren) (hc : csOk c) (hs : s.length ≤ 64) (ha : inS m s a) (hb : inS m s b) : (Ends_i m s c a b σ).ok Tryz.prog := by
  obtain ⟨⟨h1, h2⟩, h3, h4⟩ := ha
  obtain ⟨⟨h5, h6⟩, h7, h8⟩ := hb
  obtain ⟨hc1, hc2, hc3⟩ := hc
  have k1 := mul_small (b := a.1) hc1 (by omega)
  have k2 := mul_small (b := (s.length : Int) - 1 - b.1) hc1 (by omega)
  unfold Ends_i Inst.ok; dsimp only; refine spec_of_body (tys := tys) 2 Tryz.func48 (by kernel_rfl) rfl tys_ok rfl (Nat.le_of_ble_eq_true rfl) (fun _ _ h => (by cases h)) fun F hP hm hC hrd => ?_; conv => whnf
  (repeat (first | (refine lwp_seq fun K hK => ?_) | (refine thenS_normal ?_; apply_assumption -exfalso -symm) | (refine thenS_exit ?_) | (refine thenS_ret ?_) | (refine inBlockS_normal ?_) | (refine inBlockS_ret ?_) | (refine inBlockS_hit rfl ?_) | (refine inBlockS_miss rfl ?_) | (refine lwp_block ?_) | (refine lwp_skip ?_) | (refine lwp_exit ?_) | (refine lwp_ret ?_) | (refine lwp_label ?_) | (refine lwp_region hC ⟨[], [], []⟩ (told0 _ _) rfl True.intro ?_) | (refine lwp_region hC ⟨[], [], []⟩ (told0 _ _) rfl (by ((try simp only [AllL, All, cd_p, cp_p, cv_p, InK, and_true, true_and]); all_goals ((repeat' (first | refine And.intro ?_ ?_ | intro _)) <;> first | omega | exact True.intro | assumption | (simp; done) | rfl | (simp_all; done) | (simp_all; omega)))) ?_)))
  all_goals first | ((try simp only [AllL, All, cd_p, cp_p, cv_p, InK, and_true, true_and]); all_goals ((repeat' (first | refine And.intro ?_ ?_ | intro _)) <;> first | omega | exact True.intro | assumption | (simp; done) | rfl | (simp_all; done) | (simp_all; omega))) | skip
  (refine end_intro (by first | exact .inr rfl | exact .inl rfl) [] rfl ?_)
  exact ⟨rfl, rfl, trivial⟩

def placesOk (l : List Th) : Prop := ∀ i, 0 ≤ (thAt l i).place ∧ (thAt l i).place ≤ 100000000
def grownS (m s : List Th) (c : Cs) (a b : Int × Int) : Int := c.missed * (b.1 - a.1 - 1) + c.unseen * (b.2 - a.2 - 1) + c.stretch * max ((thAt m b.2).place - (thAt m a.2).place - ((thAt s b.1).place - (thAt s a.1).place)) ((thAt s b.1).place - (thAt s a.1).place - ((thAt m b.2).place - (thAt m a.2).place))
def Grown_i (m s : List Th) (c : Cs) (a b : Int × Int) (σ : Ren) : Inst := { f := 58, hin := rideIn m s, args := [rdA m s, csA c, prA a, prA b], hout := [], ret := i64 (grownS m s c a b), σ := σ }
set_option maxRecDepth 20000 in
theorem Grown_s (m s : List Th) (c : Cs) (a b : Int × Int) (σ : Ren) (hc : csOk c) (hl : m.length ≤ 64 ∧ s.length ≤ 64) (hpm : placesOk m) (hps : placesOk s) (ha : inS m s a) (hb : inS m s b) : (Grown_i m s c a b σ).ok Tryz.prog := by
  obtain ⟨⟨h1, h2⟩, h3, h4⟩ := ha
  obtain ⟨⟨h5, h6⟩, h7, h8⟩ := hb
  obtain ⟨hc1, hc2, hc3⟩ := hc
  have k1 := mul_small (b := b.1 - a.1 - 1) hc1 (by omega)
  have k2 := mul_small (b := b.2 - a.2 - 1) hc2 (by omega)
  have p1 := hpm a.2; have p2 := hpm b.2; have p3 := hps a.1; have p4 := hps b.1
  have k3 := mul_small (b := max ((thAt m b.2).place - (thAt m a.2).place - ((thAt s b.1).place - (thAt s a.1).place)) ((thAt s b.1).place - (thAt s a.1).place - ((thAt m b.2).place - (thAt m a.2).place))) hc3 (by omega)
  have f1 : -1000000000 ≤ (thAt m b.2).place - (thAt m a.2).place ∧ (thAt m b.2).place - (thAt m a.2).place ≤ 1000000000 := by omega
  have f2 : -1000000000 ≤ (thAt s b.1).place - (thAt s a.1).place ∧ (thAt s b.1).place - (thAt s a.1).place ≤ 1000000000 := by omega
  have k4 := k3
  unfold thAt at p1 p2 p3 p4 k3
  unfold Grown_i Inst.ok; dsimp only; refine spec_of_body (tys := tys) 2 Tryz.func58 (by kernel_rfl) rfl tys_ok rfl (Nat.le_of_ble_eq_true rfl) (fun _ _ h => (by cases h)) fun F hP hm hC hrd => ?_; conv => whnf
  (repeat (first | (refine lwp_seq fun K hK => ?_) | (refine thenS_normal ?_; apply_assumption -exfalso -symm) | (refine thenS_exit ?_) | (refine thenS_ret ?_) | (refine inBlockS_normal ?_) | (refine inBlockS_ret ?_) | (refine inBlockS_hit rfl ?_) | (refine inBlockS_miss rfl ?_) | (refine lwp_block ?_) | (refine lwp_skip ?_) | (refine lwp_exit ?_) | (refine lwp_ret ?_) | (refine lwp_label ?_) | (refine lwp_region hC ⟨[], [], []⟩ (told0 _ _) rfl True.intro ?_) | (refine lwp_region hC ⟨[], [], []⟩ (told0 _ _) rfl (by ((try simp only [AllL, All, cd_p, cp_p, cv_p, InK, and_true, true_and]); all_goals ((repeat' (first | refine And.intro ?_ ?_ | intro _)) <;> first | omega | exact True.intro | assumption | (simp; done) | rfl | (simp_all; done) | (simp_all; omega)))) ?_)))
  (refine lwp_drawn hC (by rw [hP]; exact mixed) ⟨[], [], []⟩ (told0 _ _) [0, 1, 0, 4, 15, 31, 63, 0, 128, 0, 512, 1920, 3968, 8064, 16383, 32767] 14 rfl ?_ ?_; rotate_left 1)
  · (repeat (first | (refine lwp_seq fun K hK => ?_) | (refine thenS_normal ?_; apply_assumption -exfalso -symm) | (refine thenS_exit ?_) | (refine thenS_ret ?_) | (refine inBlockS_normal ?_) | (refine inBlockS_ret ?_) | (refine inBlockS_hit rfl ?_) | (refine inBlockS_miss rfl ?_) | (refine lwp_block ?_) | (refine lwp_skip ?_) | (refine lwp_exit ?_) | (refine lwp_ret ?_) | (refine lwp_label ?_) | (refine lwp_region hC ⟨[], [], []⟩ (told0 _ _) rfl True.intro ?_) | (refine lwp_region hC ⟨[], [], []⟩ (told0 _ _) rfl (by ((try simp only [AllL, All, cd_p, cp_p, cv_p, InK, and_true, true_and]); all_goals ((repeat' (first | refine And.intro ?_ ?_ | intro _)) <;> first | omega | exact True.intro | assumption | (simp; done) | rfl | (simp_all; done) | (simp_all; omega)))) ?_)))
    (refine lwp_drawn hC (by rw [hP]; exact mixed) ⟨[], [], []⟩ (told0 _ _) [0, 1, 0, 4, 15, 31, 63, 0, 128, 0, 512, 1920, 3968, 8064, 16383, 32767] 14 rfl ?_ ?_; rotate_left 1)
    · (repeat (first | (refine lwp_seq fun K hK => ?_) | (refine thenS_normal ?_; apply_assumption -exfalso -symm) | (refine thenS_exit ?_) | (refine thenS_ret ?_) | (refine inBlockS_normal ?_) | (refine inBlockS_ret ?_) | (refine inBlockS_hit rfl ?_) | (refine inBlockS_miss rfl ?_) | (refine lwp_block ?_) | (refine lwp_skip ?_) | (refine lwp_exit ?_) | (refine lwp_ret ?_) | (refine lwp_label ?_) | (refine lwp_region hC ⟨[], [], []⟩ (told0 _ _) rfl True.intro ?_) | (refine lwp_region hC ⟨[], [], []⟩ (told0 _ _) rfl (by ((try simp only [AllL, All, cd_p, cp_p, cv_p, InK, and_true, true_and]); all_goals ((repeat' (first | refine And.intro ?_ ?_ | intro _)) <;> first | omega | exact True.intro | assumption | (simp; done) | rfl | (simp_all; done) | (simp_all; omega)))) ?_)))
      (refine lwp_drawn2 hC (by rw [hP]; exact mixed) ⟨[], [], [(23, Far_i ((thAt m b.2).place - (thAt m a.2).place) ((thAt s b.1).place - (thAt s a.1).place))]⟩ (told1 _ (by rw [hP]; exact (calls_cons (Far_s _ _ f1 f2) calls_nil))) [0, 1, 0, 4, 0, 16, 60, 124, 255, 0, 512, 0, 2048, 0, 8192, 30720, 63488, 130560, 262143, 0, 524288, 0, 0, 6291456, 16252928, 33554431, 67108863] 27 0 rfl ?_ ?_; rotate_left 1)
      · (repeat (first | (refine lwp_seq fun K hK => ?_) | (refine thenS_normal ?_; apply_assumption -exfalso -symm) | (refine thenS_exit ?_) | (refine thenS_ret ?_) | (refine inBlockS_normal ?_) | (refine inBlockS_ret ?_) | (refine inBlockS_hit rfl ?_) | (refine inBlockS_miss rfl ?_) | (refine lwp_block ?_) | (refine lwp_skip ?_) | (refine lwp_exit ?_) | (refine lwp_ret ?_) | (refine lwp_label ?_) | (refine lwp_region hC ⟨[], [], []⟩ (told0 _ _) rfl True.intro ?_) | (refine lwp_region hC ⟨[], [], []⟩ (told0 _ _) rfl (by ((try simp only [AllL, All, cd_p, cp_p, cv_p, InK, and_true, true_and]); all_goals ((repeat' (first | refine And.intro ?_ ?_ | intro _)) <;> first | omega | exact True.intro | assumption | (simp; done) | rfl | (simp_all; done) | (simp_all; omega)))) ?_)))
        (refine end_intro (by first | exact .inr rfl | exact .inl rfl) [] rfl ?_)
        exact ⟨rfl, trivial⟩
      · ((try simp only [AllL, All, cd_p, cp_p, cv_p, InK, and_true, true_and]); all_goals ((repeat' (first | refine And.intro ?_ ?_ | intro _)) <;> first | omega | exact True.intro | assumption | (simp; done) | rfl | (simp_all; done) | (simp_all; omega)))
    · ((try simp only [AllL, All, cd_p, cp_p, cv_p, InK, and_true, true_and]); all_goals ((repeat' (first | refine And.intro ?_ ?_ | intro _)) <;> first | omega | exact True.intro | assumption | (simp; done) | rfl | (simp_all; done) | (simp_all; omega)))
  · ((try simp only [AllL, All, cd_p, cp_p, cv_p, InK, and_true, true_and]); all_goals ((repeat' (first | refine And.intro ?_ ?_ | intro _)) <;> first | omega | exact True.intro | assumption | (simp; done) | rfl | (simp_all; done) | (simp_all; omega)))

end Go.Proofs.YtpfafdnempehkaaGreatDoor
