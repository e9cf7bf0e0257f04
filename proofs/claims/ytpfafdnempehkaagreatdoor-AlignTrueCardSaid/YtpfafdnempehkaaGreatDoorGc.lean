/- AlignTrue: the law gives true. -/
import Derived.Test.YtpfafdnempehkaaGreatDoorGa
import Derived.Test.YtpfafdnempehkaaGreatDoorEg
import Derived.Test.YtpfafdnempehkaaGreatDoorDl
import Derived.Test.YtpfafdnempehkaaGreatDoorDy
set_option linter.unusedVariables false
set_option linter.unusedSimpArgs false
namespace Go.Proofs.YtpfafdnempehkaaGreatDoor
open Go.RowKit Go.Sym

def Pl_i (E W c : Int) (σ : Ren) : Inst := { f := 5, hin := [(0, .rb 3 [i64 W]), (1, .rb 3 [i64 E])], args := [i64 c, .ptr 0 0 0 0, .ptr 1 0 0 0], hout := [], ret := i64 (trueS E W c), σ := σ }
set_option maxRecDepth 20000 in
theorem Pl_s (E W c : Int) (σ : Ren) (hE : 2 ≤ E ∧ E ≤ 101) (hW : W = -1 ∨ W = 0 ∨ W = 1) (hc : 0 ≤ c ∧ c ≤ 100000) : (Pl_i E W c σ).ok Tryz.prog := by
  have h1 := tdiv_bound (a := c) (d := E) (c := 100000) (by omega) (by omega) (by omega)
  have h2 := way_abs hW h1
  unfold Pl_i Inst.ok; dsimp only; refine spec_of_body (tys := tys) 2 Tryz.func5 (by kernel_rfl) rfl tys_ok rfl (Nat.le_of_ble_eq_true rfl) (fun _ _ h => (by cases h)) fun F hP hm hC hrd => ?_; conv => whnf
  repeat first | refine lwp_seq fun K hK => ?_ | ((with_reducible refine thenS_normal ?_); apply_assumption -exfalso -symm) | refine thenS_exit ?_ | refine thenS_ret ?_ | refine inBlockS_normal ?_ | refine inBlockS_ret ?_ | refine inBlockS_hit rfl ?_ | refine inBlockS_miss rfl ?_ | refine lwp_block ?_ | refine lwp_skip ?_ | refine lwp_exit ?_ | refine lwp_ret ?_ | refine lwp_label ?_ | refine lwp_region hC ⟨[], [], []⟩ (told0 _ _) rfl True.intro ?_
  (refine lwp_drawn hC (by rw [hP]; exact mixed) ⟨[], [], []⟩ (told0 _ _) [0, 1, 0, 0, 0, 24, 60, 127, 255] 7 rfl ?_ ?_; rotate_left 1)
  · (repeat (first | (refine lwp_seq fun K hK => ?_) | (refine thenS_normal ?_; apply_assumption -exfalso -symm) | (refine thenS_exit ?_) | (refine thenS_ret ?_) | (refine inBlockS_normal ?_) | (refine inBlockS_ret ?_) | (refine inBlockS_hit rfl ?_) | (refine inBlockS_miss rfl ?_) | (refine lwp_block ?_) | (refine lwp_skip ?_) | (refine lwp_exit ?_) | (refine lwp_ret ?_) | (refine lwp_label ?_) | (refine lwp_region hC ⟨[], [], []⟩ (told0 _ _) rfl True.intro ?_) | (refine lwp_region hC ⟨[], [], []⟩ (told0 _ _) rfl (by ((try simp only [AllL, All, cd_p, cp_p, cv_p, InK, and_true, true_and]); all_goals ((repeat' (first | refine And.intro ?_ ?_ | intro _)) <;> first | omega | exact True.intro | assumption | (simp; done) | rfl | (simp_all; done) | (simp_all; omega)))) ?_)))
    (refine end_intro (by first | exact .inr rfl | exact .inl rfl) [] rfl ?_)
    exact ⟨rfl, trivial⟩
  · ((try simp only [AllL, All, cd_p, cp_p, cv_p, InK, and_true, true_and]); all_goals ((repeat' (first | refine And.intro ?_ ?_ | intro _)) <;> first | omega | exact True.intro | assumption | (simp; done) | rfl | (simp_all; done) | (simp_all; omega)))

theorem kinds_mk (g o : List Int) (E W : Int) : kindsOk (mkT g o E W) := by
  intro i
  by_cases hi : i < g.length
  · rw [mkT_at g o E W i hi]; exact (show balise.size ≤ 1000000 by decide)
  · rw [List.getD_eq_getElem?_getD, List.getElem?_eq_none (by rw [mkT_len]; omega)]
    show (0 : Nat) ≤ 1000000
    omega
theorem kinds_sg (g : List Int) : kindsOk (sgT g) := by
  intro i
  by_cases hi : i < g.length
  · rw [sgT_at g i hi]; exact (show balise.size ≤ 1000000 by decide)
  · rw [List.getD_eq_getElem?_getD, List.getElem?_eq_none (by rw [sgT_len]; omega)]
    show (0 : Nat) ≤ 1000000
    omega
theorem slip_T {E : Int} (h : 2 ≤ E ∧ E ≤ 101) : slipS (rateS E) 20 = 0 := by
  obtain ⟨r1, r2, r3⟩ := rate_ok h
  unfold slipS
  rw [firstS_cons, firstS_cons, withinS_zero, withinS_zero]
  exact ⟨⟨by omega, by omega⟩, ⟨by decide, by decide⟩, rfl⟩
theorem true_with {g o : List Int} {E W at' : Int} (h : Run5 g o E W at') (hr : rideS (mkT g o E W) (sgT g) = 0) : ∃ J : Int × Int, withR (mkT g o E W) (sgT g) (rateS E) 20 at' (prT g) = (J, 0) ∧ J.1 ≤ trueS E W at' ∧ trueS E W at' ≤ J.2 := by
  have hl := prT_len g
  have hn := h.hn
  have hin := inter_in h g.length hn.1 (Nat.le_refl _)
  obtain ⟨r1, r2, r3⟩ := rate_ok h.hE
  have hz : withE (mkT g o E W) (sgT g) (rateS E) 20 at' (prT g) = 0 := by
    unfold withE
    rw [firstS_cons, firstS_cons, firstS_cons, firstS_cons, withinS_zero, whenS_zero (by decide)]
    have := h.ha
    exact ⟨pairs_T h hr, slip_T h.hE, ⟨by omega, by omega⟩, decide_eq_false (by rw [hl]; omega), rfl⟩
  refine ⟨interS (mkT g o E W) (sgT g) (rateS E) 20 at' (prT g) g.length, ?_, hin⟩
  unfold withR
  rw [if_neg (by rw [hz]; decide)]
  unfold withS
  rw [hl, if_neg (by omega)]
theorem true_conf {g o : List Int} {E W at' : Int} (h : Run5 g o E W at') (hr : rideS (mkT g o E W) (sgT g) = 0) : confE (mkT g o E W) (sgT g) (rateS E) 20 (prT g) = 0 ∧ confL (mkT g o E W) (sgT g) (rateS E) 20 (prT g) = [] := by
  obtain ⟨r1, r2, r3⟩ := rate_ok h.hE
  have hz : confE (mkT g o E W) (sgT g) (rateS E) 20 (prT g) = 0 := by
    unfold confE
    rw [firstS_cons, firstS_cons]
    exact ⟨pairs_T h hr, slip_T h.hE, rfl⟩
  refine ⟨hz, ?_⟩
  unfold confL
  rw [if_neg (by rw [hz]; decide), prT_len]
  exact no_confs h _ (Nat.le_refl _)

def LawU_i (g o : List Int) (e y c : Int) : Inst := { f := 3, gl := lawG, hin := [(0, pwC), (1, fmC), (2, .ro g.length 1 (.ints .u8 g)), (3, .ro o.length 1 (.ints .i8 o))], args := [.agg [.sl 2 g.length, .sl 3 o.length, .lit (.int .u8 e), .lit (.int .u8 y), .lit (.int .u16 c)]], hout := [], ret := bl true, σ := [] }
set_option maxRecDepth 20000 in
set_option maxHeartbeats 8000000 in
theorem LawU_s (g o : List Int) (e y c : Int) (hg : ∀ x ∈ g, 0 ≤ x ∧ x ≤ 255) (ho : ∀ x ∈ o, -128 ≤ x ∧ x ≤ 127) (he : 0 ≤ e ∧ e ≤ 255) (hy : 0 ≤ y ∧ y ≤ 255) (hc : 0 ≤ c ∧ c ≤ 65535) (hgl : g.length ≤ 9223372036854775807) (hol : o.length ≤ 9223372036854775807) : (LawU_i g o e y c).ok Tryz.prog := by
  unfold LawU_i Inst.ok; dsimp only; refine spec_of_body (tys := tys) 4 Tryz.func3 (by kernel_rfl) rfl tys_ok rfl (Nat.le_of_ble_eq_true rfl) (fun g i h => ?_) fun F hP hm hC hrd => ?_
  · simp only [List.mem_cons, List.not_mem_nil, or_false, Prod.mk.injEq] at h
    omega
  conv => whnf
  repeat first | refine lwp_seq fun K hK => ?_ | ((with_reducible refine thenS_normal ?_); apply_assumption -exfalso -symm) | refine thenS_exit ?_ | refine thenS_ret ?_ | refine inBlockS_normal ?_ | refine inBlockS_ret ?_ | refine inBlockS_hit rfl ?_ | refine inBlockS_miss rfl ?_ | refine lwp_block ?_ | refine lwp_skip ?_ | refine lwp_exit ?_ | refine lwp_ret ?_ | refine lwp_label ?_ | refine lwp_region hC ⟨[], [], []⟩ (told0 _ _) rfl True.intro ?_
  (refine lwp_region hC ⟨[], [], []⟩ (told0 _ _) rfl ?_ ?_; rotate_left 1)
  · (repeat (first | (refine lwp_seq fun K hK => ?_) | (refine thenS_normal ?_; apply_assumption -exfalso -symm) | (refine thenS_exit ?_) | (refine thenS_ret ?_) | (refine inBlockS_normal ?_) | (refine inBlockS_ret ?_) | (refine inBlockS_hit rfl ?_) | (refine inBlockS_miss rfl ?_) | (refine lwp_block ?_) | (refine lwp_skip ?_) | (refine lwp_exit ?_) | (refine lwp_ret ?_) | (refine lwp_label ?_) | (refine lwp_region hC ⟨[], [], []⟩ (told0 _ _) rfl True.intro ?_) | (refine lwp_region hC ⟨[], [], []⟩ (told0 _ _) rfl (by ((try simp only [AllL, All, cd_p, cp_p, cv_p, InK, and_true, true_and]); all_goals ((repeat' (first | refine And.intro ?_ ?_ | intro _)) <;> first | omega | exact True.intro | assumption | (simp; done) | rfl | (simp_all; done) | (simp_all; omega)))) ?_)))
    (refine lwp_cond hC rfl (by first | exact True.intro | ((try simp only [AllL, All, cd_p, cp_p, cv_p, InK, and_true, true_and]); all_goals ((repeat' (first | refine And.intro ?_ ?_ | intro _)) <;> first | omega | exact True.intro | assumption | (simp; done) | rfl | (simp_all; done) | (simp_all; omega)))) (fun hb => ?_) (fun hb => ?_) <;> (try simp only [decide_eq_true_eq, decide_eq_false_iff_not, Bool.not_eq_true', Bool.not_eq_false', ne_eq, Decidable.not_not] at hb))
    · repeat first | refine lwp_seq fun K hK => ?_ | ((with_reducible refine thenS_normal ?_); apply_assumption -exfalso -symm) | refine thenS_exit ?_ | refine thenS_ret ?_ | refine inBlockS_normal ?_ | refine inBlockS_ret ?_ | refine inBlockS_hit rfl ?_ | refine inBlockS_miss rfl ?_ | refine lwp_block ?_ | refine lwp_skip ?_ | refine lwp_exit ?_ | refine lwp_ret ?_ | refine lwp_label ?_ | refine lwp_region hC ⟨[], [], []⟩ (told0 _ _) rfl True.intro ?_
      (refine lwp_region hC ⟨[], [], [(0, Awake_i)]⟩ (told1 _ (by rw [hP]; exact (calls_cons (Awake_s) calls_nil))) rfl ?_ ?_; rotate_left 1)
      · (repeat (first | (refine lwp_seq fun K hK => ?_) | (refine thenS_normal ?_; apply_assumption -exfalso -symm) | (refine thenS_exit ?_) | (refine thenS_ret ?_) | (refine inBlockS_normal ?_) | (refine inBlockS_ret ?_) | (refine inBlockS_hit rfl ?_) | (refine inBlockS_miss rfl ?_) | (refine lwp_block ?_) | (refine lwp_skip ?_) | (refine lwp_exit ?_) | (refine lwp_ret ?_) | (refine lwp_label ?_) | (refine lwp_region hC ⟨[], [], []⟩ (told0 _ _) rfl True.intro ?_) | (refine lwp_region hC ⟨[], [], []⟩ (told0 _ _) rfl (by ((try simp only [AllL, All, cd_p, cp_p, cv_p, InK, and_true, true_and]); all_goals ((repeat' (first | refine And.intro ?_ ?_ | intro _)) <;> first | omega | exact True.intro | assumption | (simp; done) | rfl | (simp_all; done) | (simp_all; omega)))) ?_)))
        (refine end_intro (by first | exact .inr rfl | exact .inl rfl) [] rfl ?_)
        exact ⟨rfl, trivial⟩
      · ((try simp only [AllL, All, cd_p, cp_p, cv_p, InK, and_true, true_and]); all_goals ((repeat' (first | refine And.intro ?_ ?_ | intro _)) <;> first | omega | exact True.intro | assumption | (simp; done) | rfl | (simp_all; done) | (simp_all; omega)))
    · have gg : ∀ x y z : Bool, (bif (bif x then true else y) then true else z) = false → x = false ∧ y = false ∧ z = false := by decide
      obtain ⟨g1, g2, g3⟩ := gg _ _ _ hb
      have hn : 0 < g.length ∧ g.length ≤ 8 ∧ o.length = g.length := by
        have a1 := of_decide_eq_false g1
        have a2 := of_decide_eq_false g2
        simp at g3
        omega
      obtain ⟨hn1, hn2, hn3⟩ := hn
      clear hb g1 g2 g3 gg
      have hEb : 2 ≤ 2 + Int.tmod e 100 ∧ 2 + Int.tmod e 100 ≤ 101 := by
        have a1 := Int.tmod_lt_of_pos e (show (0 : Int) < 100 by decide)
        have a2 := Int.tmod_nonneg 100 he.1
        omega
      have hWb : Int.tmod y 3 - 1 = -1 ∨ Int.tmod y 3 - 1 = 0 ∨ Int.tmod y 3 - 1 = 1 := by
        have a1 := Int.tmod_lt_of_pos y (show (0 : Int) < 3 by decide)
        have a2 := Int.tmod_nonneg 3 hy.1
        omega
      have hAb : 0 ≤ Int.tmod c 2001 ∧ Int.tmod c 2001 ≤ 2000 := by
        have a1 := Int.tmod_lt_of_pos c (show (0 : Int) < 2001 by decide)
        have a2 := Int.tmod_nonneg 2001 hc.1
        omega
      have hRb := rate_ok hEb
      have hR5 : Run5 g o (2 + Int.tmod e 100) (Int.tmod y 3 - 1) (Int.tmod c 2001) := ⟨hg, hEb, hWb, ⟨hn1, hn2⟩, hAb⟩
      unfold rateS at hRb
      (repeat (first | (refine lwp_seq fun K hK => ?_) | (refine thenS_normal ?_; apply_assumption -exfalso -symm) | (refine thenS_exit ?_) | (refine thenS_ret ?_) | (refine inBlockS_normal ?_) | (refine inBlockS_ret ?_) | (refine inBlockS_hit rfl ?_) | (refine inBlockS_miss rfl ?_) | (refine lwp_block ?_) | (refine lwp_skip ?_) | (refine lwp_exit ?_) | (refine lwp_ret ?_) | (refine lwp_label ?_) | (refine lwp_region hC ⟨[], [], []⟩ (told0 _ _) rfl True.intro ?_) | (refine lwp_region hC ⟨[], [], []⟩ (told0 _ _) rfl (by ((try simp only [AllL, All, cd_p, cp_p, cv_p, InK, and_true, true_and]); all_goals ((repeat' (first | refine And.intro ?_ ?_ | intro _)) <;> first | omega | exact True.intro | assumption | (simp; done) | rfl | (simp_all; done) | (simp_all; omega)))) ?_)))
      rw [show (1000 + (2 + Int.tmod e 100) - 1).tdiv (2 + Int.tmod e 100) = rateS (2 + Int.tmod e 100) from rfl]
      clear hRb
      generalize hE : 2 + Int.tmod e 100 = E at hEb hR5 ⊢
      generalize hW : Int.tmod y 3 - 1 = W at hWb hR5 ⊢
      have l1 := sgT_len g
      have l2 := mkT_len g o E W
      have l3 := prT_len g
      refine lwp_loop (fun k : Nat => ⟨[(57, i64 k), (56, i64 g.length), (55, .sl 2 g.length), (9, i64 (cntK g k)), (8, .sl 11 k), (5, .fn 5 [] [.ptr 6 0 0 0, .ptr 5 0 0 0]), (1, .ptr 4 0 0 0), (6, .ptr 7 0 0 0), (7, .ptr 8 0 0 0)], [(11, .row 42 k 2 (prC ((prT g).take k))), (10, .row 37 k 2 (thC ((sgT g).take k))), (9, .row 40 k 2 (thC ((mkT g o E W).take k))), (8, .blk 34 [.sl 9 k, .sl 10 k]), (7, .blk 30 [i64 (rateS E), i64 20]), (6, .blk 3 [i64 W]), (5, .blk 3 [i64 E]), (4, .blk 26 [.sl 2 g.length, .sl 3 o.length, .lit (.int .u8 e), .lit (.int .u8 y), .lit (.int .u16 c)]), (0, pwC), (1, fmC), (2, .ro g.length 1 (.ints .u8 g)), (3, .ro o.length 1 (.ints .i8 o))], 12⟩) (fun k => k ≤ g.length) (fun k => g.length - k) 0 ⟨?_, sub_intro hm [(0, some 0), (1, some 1), (2, some 2), (3, some 3), (4, some 4), (5, some 5), (6, some 7), (7, some 9), (8, some 11), (9, none), (10, none), (11, none)] rfl ?_⟩ ?_
      · exact Nat.zero_le _
      · ((try simp only [AllL, All, cd_p, cp_p, cv_p, InK, and_true, true_and]); all_goals ((repeat' (first | refine And.intro ?_ ?_ | intro _)) <;> first | omega | exact True.intro | assumption | (simp; done) | rfl | (simp_all; done) | (simp_all; omega)))
      · rintro k hk
        have e1 : (k : Int).toNat = k := Int.toNat_natCast k
        (repeat (first | (refine lwp_seq fun K hK => ?_) | (refine thenS_normal ?_; apply_assumption -exfalso -symm) | (refine thenS_exit ?_) | (refine thenS_ret ?_) | (refine inBlockS_normal ?_) | (refine inBlockS_ret ?_) | (refine inBlockS_hit rfl ?_) | (refine inBlockS_miss rfl ?_) | (refine lwp_block ?_) | (refine lwp_skip ?_) | (refine lwp_exit ?_) | (refine lwp_ret ?_) | (refine lwp_label ?_) | (refine lwp_region hC ⟨[], [], []⟩ (told0 _ _) rfl True.intro ?_) | (refine lwp_region hC ⟨[], [], []⟩ (told0 _ _) rfl (by ((try simp only [AllL, All, cd_p, cp_p, cv_p, InK, and_true, true_and]); all_goals ((repeat' (first | refine And.intro ?_ ?_ | intro _)) <;> first | omega | exact True.intro | assumption | (simp; done) | rfl | (simp_all; done) | (simp_all; omega)))) ?_)))
        (refine lwp_cond hC rfl (by first | exact True.intro | ((try simp only [AllL, All, cd_p, cp_p, cv_p, InK, and_true, true_and]); all_goals ((repeat' (first | refine And.intro ?_ ?_ | intro _)) <;> first | omega | exact True.intro | assumption | (simp; done) | rfl | (simp_all; done) | (simp_all; omega)))) (fun hb => ?_) (fun hb => ?_) <;> (try simp only [decide_eq_true_eq, decide_eq_false_iff_not, Bool.not_eq_true', Bool.not_eq_false', ne_eq, Decidable.not_not] at hb))
        · have hkl : k < g.length := by omega
          have hgk : 0 ≤ g.getD k 0 ∧ g.getD k 0 ≤ 255 := by
            rw [List.getD_eq_getElem?_getD, List.getElem?_eq_getElem hkl]
            exact hg _ (List.getElem_mem _)
          have hok : -128 ≤ o.getD k 0 ∧ o.getD k 0 ≤ 127 := by
            rw [List.getD_eq_getElem?_getD, List.getElem?_eq_getElem (show k < o.length by omega)]
            exact ho _ (List.getElem_mem _)
          have hck := cntK_bound hg k (by omega)
          have hck1 := cntK_bound hg (k + 1) (by omega)
          have htm := tmod_small (o.getD k 0)
          have htd := tdiv_bound (a := cntK g (k + 1)) (d := E) (c := 4000) (by omega) (by omega) (by omega)
          have htw := way_abs hWb htd
          have htr : -10000 ≤ trueS E W (cntK g (k + 1)) ∧ trueS E W (cntK g (k + 1)) ≤ 20000 := by unfold trueS; omega
          repeat first | refine lwp_seq fun K hK => ?_ | ((with_reducible refine thenS_normal ?_); apply_assumption -exfalso -symm) | refine thenS_exit ?_ | refine thenS_ret ?_ | refine inBlockS_normal ?_ | refine inBlockS_ret ?_ | refine inBlockS_hit rfl ?_ | refine inBlockS_miss rfl ?_ | refine lwp_block ?_ | refine lwp_skip ?_ | refine lwp_exit ?_ | refine lwp_ret ?_ | refine lwp_label ?_ | refine lwp_region hC ⟨[], [], []⟩ (told0 _ _) rfl True.intro ?_
          (refine lwp_region hC ⟨[], [], []⟩ (told0 _ _) rfl ?_ ?_; rotate_left 1)
          · rw [e1]
            repeat first | refine lwp_seq fun K hK => ?_ | ((with_reducible refine thenS_normal ?_); apply_assumption -exfalso -symm) | refine thenS_exit ?_ | refine thenS_ret ?_ | refine inBlockS_normal ?_ | refine inBlockS_ret ?_ | refine inBlockS_hit rfl ?_ | refine inBlockS_miss rfl ?_ | refine lwp_block ?_ | refine lwp_skip ?_ | refine lwp_exit ?_ | refine lwp_ret ?_ | refine lwp_label ?_ | refine lwp_region hC ⟨[], [], []⟩ (told0 _ _) rfl True.intro ?_
            (refine lwp_region hC ⟨[], [], []⟩ (told0 _ _) rfl ?_ ?_; rotate_left 1)
            · rw [show cntK g k + (1 + g.getD k 0) = cntK g (k + 1) from rfl]
              (repeat (first | (refine lwp_seq fun K hK => ?_) | (refine thenS_normal ?_; apply_assumption -exfalso -symm) | (refine thenS_exit ?_) | (refine thenS_ret ?_) | (refine inBlockS_normal ?_) | (refine inBlockS_ret ?_) | (refine inBlockS_hit rfl ?_) | (refine inBlockS_miss rfl ?_) | (refine lwp_block ?_) | (refine lwp_skip ?_) | (refine lwp_exit ?_) | (refine lwp_ret ?_) | (refine lwp_label ?_) | (refine lwp_region hC ⟨[], [], []⟩ (told0 _ _) rfl True.intro ?_) | (refine lwp_region hC ⟨[], [], []⟩ (told0 _ _) rfl (by ((try simp only [AllL, All, cd_p, cp_p, cv_p, InK, and_true, true_and]); all_goals ((repeat' (first | refine And.intro ?_ ?_ | intro _)) <;> first | omega | exact True.intro | assumption | (simp; done) | rfl | (simp_all; done) | (simp_all; omega)))) ?_)))
              (refine lwp_drawn hC (by rw [hP]; exact mixed) ⟨[], [], [(4, Pl_i E W (cntK g (k + 1)) [(0, some 6), (1, some 5)])]⟩ (told1 _ (by rw [hP]; exact (calls_cons (Pl_s _ _ _ _ hEb hWb (by omega)) calls_nil))) [0, 1, 0, 0, 12, 0, 32, 0, 224, 480, 992, 2016, 4092, 8188, 16380, 32767, 65535, 131071] 15 rfl ?_ ?_; rotate_left 1)
              · rw [e1]
                (repeat (first | (refine lwp_seq fun K hK => ?_) | (refine thenS_normal ?_; apply_assumption -exfalso -symm) | (refine thenS_exit ?_) | (refine thenS_ret ?_) | (refine inBlockS_normal ?_) | (refine inBlockS_ret ?_) | (refine inBlockS_hit rfl ?_) | (refine inBlockS_miss rfl ?_) | (refine lwp_block ?_) | (refine lwp_skip ?_) | (refine lwp_exit ?_) | (refine lwp_ret ?_) | (refine lwp_label ?_) | (refine lwp_region hC ⟨[], [], []⟩ (told0 _ _) rfl True.intro ?_) | (refine lwp_region hC ⟨[], [], []⟩ (told0 _ _) rfl (by ((try simp only [AllL, All, cd_p, cp_p, cv_p, InK, and_true, true_and]); all_goals ((repeat' (first | refine And.intro ?_ ?_ | intro _)) <;> first | omega | exact True.intro | assumption | (simp; done) | rfl | (simp_all; done) | (simp_all; omega)))) ?_)))
                refine thenS_normal ⟨k + 1, ?_, ?_, sub_intro hm [(0, some 0), (1, some 1), (2, some 2), (3, some 3), (4, some 4), (5, some 5), (6, some 6), (7, some 7), (8, some 8), (9, some 16), (10, some 13), (11, some 19)] rfl ?_⟩
                · omega
                · omega
                · have a1 := thC_snoc ((mkT g o E W).take k) ((mkT g o E W).getD k thD)
                  rw [← take_snoc _ _ _ (by omega), mkT_at g o E W k hkl] at a1
                  have b1 : (thC ((mkT g o E W).take (k + 1))).cells = (catC (thC ((mkT g o E W).take k)) (Cont.exp [.lit (.string balise), .lit (.int .i64 (trueS E W (cntK g (k + 1)) + Int.tmod (o.getD k 0) 21))])).cells := by
                    rw [catC_cells, a1]; rfl
                  have a2 := thC_snoc ((sgT g).take k) ((sgT g).getD k thD)
                  rw [← take_snoc _ _ _ (by omega), sgT_at g k hkl] at a2
                  have b2 : (thC ((sgT g).take (k + 1))).cells = (catC (thC ((sgT g).take k)) (Cont.exp [.lit (.string balise), .lit (.int .i64 (cntK g (k + 1)))])).cells := by
                    rw [catC_cells, a2]; rfl
                  have a3 := prC_snoc ((prT g).take k) ((prT g).getD k (0, 0))
                  rw [← take_snoc _ _ _ (by omega), show (prT g).getD k (0, 0) = ((k : Int), (k : Int)) from prT_at g k hkl] at a3
                  have b3 : (prC ((prT g).take (k + 1))).cells = (catC (prC ((prT g).take k)) (Cont.exp [.lit (.int .i64 k), .lit (.int .i64 k)])).cells := by
                    rw [catC_cells, a3]; rfl
                  clear a1 a2 a3
                  ((try simp only [AllL, All, cd_p, cp_p, cv_p, InK, and_true, true_and]); all_goals ((repeat' (first | refine And.intro ?_ ?_ | intro _)) <;> first | omega | exact True.intro | assumption | (simp; done) | rfl | (simp_all; done) | (simp_all; omega)))
              · rw [e1]
                ((try simp only [AllL, All, cd_p, cp_p, cv_p, InK, and_true, true_and]); all_goals ((repeat' (first | refine And.intro ?_ ?_ | intro _)) <;> first | omega | exact True.intro | assumption | (simp; done) | rfl | (simp_all; done) | (simp_all; omega)))
            · ((try simp only [AllL, All, cd_p, cp_p, cv_p, InK, and_true, true_and]); all_goals ((repeat' (first | refine And.intro ?_ ?_ | intro _)) <;> first | omega | exact True.intro | assumption | (simp; done) | rfl | (simp_all; done) | (simp_all; omega)))
          · rw [e1]
            ((try simp only [AllL, All, cd_p, cp_p, cv_p, InK, and_true, true_and]); all_goals ((repeat' (first | refine And.intro ?_ ?_ | intro _)) <;> first | omega | exact True.intro | assumption | (simp; done) | rfl | (simp_all; done) | (simp_all; omega)))
        · obtain rfl : k = g.length := by omega
          rw [List.take_of_length_le (Nat.le_of_eq l1), List.take_of_length_le (Nat.le_of_eq l2), List.take_of_length_le (Nat.le_of_eq l3)]
          clear hb hk e1
          repeat first | refine lwp_seq fun K hK => ?_ | ((with_reducible refine thenS_normal ?_); apply_assumption -exfalso -symm) | refine thenS_exit ?_ | refine thenS_ret ?_ | refine inBlockS_normal ?_ | refine inBlockS_ret ?_ | refine inBlockS_hit rfl ?_ | refine inBlockS_miss rfl ?_ | refine lwp_block ?_ | refine lwp_skip ?_ | refine lwp_exit ?_ | refine lwp_ret ?_ | refine lwp_label ?_ | refine lwp_region hC ⟨[], [], []⟩ (told0 _ _) rfl True.intro ?_
          (refine lwp_region hC ⟨[], [], [(1, RRide_i (mkT g o E W) (sgT g) [(0, some 9), (1, some 10)])]⟩ (told1 _ (by rw [hP]; exact (calls_cons (RRide_s _ _ _ (by omega) (by omega) (kinds_mk _ _ _ _) (kinds_sg _)) calls_nil))) rfl ?_ ?_; rotate_left 1)
          · (repeat (first | (refine lwp_seq fun K hK => ?_) | (refine thenS_normal ?_; apply_assumption -exfalso -symm) | (refine thenS_exit ?_) | (refine thenS_ret ?_) | (refine inBlockS_normal ?_) | (refine inBlockS_ret ?_) | (refine inBlockS_hit rfl ?_) | (refine inBlockS_miss rfl ?_) | (refine lwp_block ?_) | (refine lwp_skip ?_) | (refine lwp_exit ?_) | (refine lwp_ret ?_) | (refine lwp_label ?_) | (refine lwp_region hC ⟨[], [], []⟩ (told0 _ _) rfl True.intro ?_) | (refine lwp_region hC ⟨[], [], []⟩ (told0 _ _) rfl (by ((try simp only [AllL, All, cd_p, cp_p, cv_p, InK, and_true, true_and]); all_goals ((repeat' (first | refine And.intro ?_ ?_ | intro _)) <;> first | omega | exact True.intro | assumption | (simp; done) | rfl | (simp_all; done) | (simp_all; omega)))) ?_)))
            (refine lwp_cond hC rfl (by first | exact True.intro | ((try simp only [AllL, All, cd_p, cp_p, cv_p, InK, and_true, true_and]); all_goals ((repeat' (first | refine And.intro ?_ ?_ | intro _)) <;> first | omega | exact True.intro | assumption | (simp; done) | rfl | (simp_all; done) | (simp_all; omega)))) (fun hb => ?_) (fun hb => ?_) <;> (try simp only [decide_eq_true_eq, decide_eq_false_iff_not, Bool.not_eq_true', Bool.not_eq_false', ne_eq, Decidable.not_not] at hb))
            · repeat first | refine lwp_seq fun K hK => ?_ | ((with_reducible refine thenS_normal ?_); apply_assumption -exfalso -symm) | refine thenS_exit ?_ | refine thenS_ret ?_ | refine inBlockS_normal ?_ | refine inBlockS_ret ?_ | refine inBlockS_hit rfl ?_ | refine inBlockS_miss rfl ?_ | refine lwp_block ?_ | refine lwp_skip ?_ | refine lwp_exit ?_ | refine lwp_ret ?_ | refine lwp_label ?_ | refine lwp_region hC ⟨[], [], []⟩ (told0 _ _) rfl True.intro ?_
              (refine lwp_region hC ⟨[], [], [(0, Awake_i)]⟩ (told1 _ (by rw [hP]; exact (calls_cons (Awake_s) calls_nil))) rfl ?_ ?_; rotate_left 1)
              · (repeat (first | (refine lwp_seq fun K hK => ?_) | (refine thenS_normal ?_; apply_assumption -exfalso -symm) | (refine thenS_exit ?_) | (refine thenS_ret ?_) | (refine inBlockS_normal ?_) | (refine inBlockS_ret ?_) | (refine inBlockS_hit rfl ?_) | (refine inBlockS_miss rfl ?_) | (refine lwp_block ?_) | (refine lwp_skip ?_) | (refine lwp_exit ?_) | (refine lwp_ret ?_) | (refine lwp_label ?_) | (refine lwp_region hC ⟨[], [], []⟩ (told0 _ _) rfl True.intro ?_) | (refine lwp_region hC ⟨[], [], []⟩ (told0 _ _) rfl (by ((try simp only [AllL, All, cd_p, cp_p, cv_p, InK, and_true, true_and]); all_goals ((repeat' (first | refine And.intro ?_ ?_ | intro _)) <;> first | omega | exact True.intro | assumption | (simp; done) | rfl | (simp_all; done) | (simp_all; omega)))) ?_)))
                (refine end_intro (by first | exact .inr rfl | exact .inl rfl) [] rfl ?_)
                exact ⟨rfl, trivial⟩
              · ((try simp only [AllL, All, cd_p, cp_p, cv_p, InK, and_true, true_and]); all_goals ((repeat' (first | refine And.intro ?_ ?_ | intro _)) <;> first | omega | exact True.intro | assumption | (simp; done) | rfl | (simp_all; done) | (simp_all; omega)))
            · have hr : rideS (mkT g o E W) (sgT g) = 0 := hb
              clear hb
              obtain ⟨J, hJ, hJ1, hJ2⟩ := true_with hR5 hr
              obtain ⟨hc1, hc2⟩ := true_conf hR5 hr
              have htd := tdiv_bound (a := Int.tmod c 2001) (d := E) (c := 4000) (by omega) (by omega) (by omega)
              have htw := way_abs hWb htd
              (repeat (first | (refine lwp_seq fun K hK => ?_) | (refine thenS_normal ?_; apply_assumption -exfalso -symm) | (refine thenS_exit ?_) | (refine thenS_ret ?_) | (refine inBlockS_normal ?_) | (refine inBlockS_ret ?_) | (refine inBlockS_hit rfl ?_) | (refine inBlockS_miss rfl ?_) | (refine lwp_block ?_) | (refine lwp_skip ?_) | (refine lwp_exit ?_) | (refine lwp_ret ?_) | (refine lwp_label ?_) | (refine lwp_region hC ⟨[], [], []⟩ (told0 _ _) rfl True.intro ?_) | (refine lwp_region hC ⟨[], [], []⟩ (told0 _ _) rfl (by ((try simp only [AllL, All, cd_p, cp_p, cv_p, InK, and_true, true_and]); all_goals ((repeat' (first | refine And.intro ?_ ?_ | intro _)) <;> first | omega | exact True.intro | assumption | (simp; done) | rfl | (simp_all; done) | (simp_all; omega)))) ?_)))
              (refine lwp_drawn2 hC (by rw [hP]; exact mixed) ⟨[], [], [(1, Own_i (mkT g o E W) (sgT g) [(0, some 9), (1, some 10)]), (3, Given_i (prT g) [(0, some 11)]), (6, Within_i (mkT g o E W) (sgT g) (rateS E) 20 (Int.tmod c 2001) (prT g) [(0, some 12), (1, some 13), (2, some 14)])]⟩ (told1 _ (by rw [hP]; exact (calls_cons (Own_s _ _ _ (by omega) (by omega)) (calls_cons (Given_s _ _ (by omega)) (calls_cons (Within_s _ _ _ _ _ _ _ (by omega) (by omega) (by omega)) calls_nil))))) [0, 1, 0, 7, 0, 0, 63, 127, 255, 255, 0, 1535, 4095] 11 512 rfl ?_ ?_; rotate_left 1)
              · rw [hJ]
                repeat first | refine lwp_seq fun K hK => ?_ | ((with_reducible refine thenS_normal ?_); apply_assumption -exfalso -symm) | refine thenS_exit ?_ | refine thenS_ret ?_ | refine inBlockS_normal ?_ | refine inBlockS_ret ?_ | refine inBlockS_hit rfl ?_ | refine inBlockS_miss rfl ?_ | refine lwp_block ?_ | refine lwp_skip ?_ | refine lwp_exit ?_ | refine lwp_ret ?_ | refine lwp_label ?_ | refine lwp_region hC ⟨[], [], []⟩ (told0 _ _) rfl True.intro ?_
                (refine lwp_drawn hC (by rw [hP]; exact mixed) ⟨[], [], [(1, Own_i (mkT g o E W) (sgT g) [(0, some 9), (1, some 10)]), (3, Given_i (prT g) [(0, some 11)]), (5, Confs_i (mkT g o E W) (sgT g) (rateS E) 20 (prT g) [(0, some 17), (1, some 18), (2, some 19)])]⟩ (told1 _ (by rw [hP]; exact (calls_cons (Own_s _ _ _ (by omega) (by omega)) (calls_cons (Given_s _ _ (by omega)) (calls_cons (Confs_s _ _ _ _ _ _ (by omega) (by omega) (by omega)) calls_nil))))) [0, 1, 0, 7, 0, 31, 63, 127, 127, 255, 1023] 10 rfl ?_ ?_; rotate_left 1)
                · rw [hc1, hc2]
                  repeat first | refine lwp_seq fun K hK => ?_ | ((with_reducible refine thenS_normal ?_); apply_assumption -exfalso -symm) | refine thenS_exit ?_ | refine thenS_ret ?_ | refine inBlockS_normal ?_ | refine inBlockS_ret ?_ | refine inBlockS_hit rfl ?_ | refine inBlockS_miss rfl ?_ | refine lwp_block ?_ | refine lwp_skip ?_ | refine lwp_exit ?_ | refine lwp_ret ?_ | refine lwp_label ?_ | refine lwp_region hC ⟨[], [], []⟩ (told0 _ _) rfl True.intro ?_
                  (refine lwp_drawn2 hC (by rw [hP]; exact mixed) ⟨[(2, { b := some false }), (6, { b := some false }), (14, { b := some false }), (22, { b := some false })], [], [(9, Pl_i E W (Int.tmod c 2001) [(0, some 6), (1, some 5)]), (17, Pl_i E W (Int.tmod c 2001) [(0, some 6), (1, some 5)])]⟩ (told1 _ (by rw [hP]; exact (calls_cons (Pl_s _ _ _ _ hEb hWb (by omega)) (calls_cons (Pl_s _ _ _ _ hEb hWb (by omega)) calls_nil)))) [0, 1, 3, 7, 15, 31, 63, 127, 127, 511, 127, 1151, 4095, 8191, 16383, 32767, 32767, 131071, 32767, 294911, 1048575, 2097151, 4194303, 8388607, 16777215, 33554431, 67108863] 27 0 rfl ?_ ?_; rotate_left 1)
                  · (repeat (first | (refine lwp_seq fun K hK => ?_) | (refine thenS_normal ?_; apply_assumption -exfalso -symm) | (refine thenS_exit ?_) | (refine thenS_ret ?_) | (refine inBlockS_normal ?_) | (refine inBlockS_ret ?_) | (refine inBlockS_hit rfl ?_) | (refine inBlockS_miss rfl ?_) | (refine lwp_block ?_) | (refine lwp_skip ?_) | (refine lwp_exit ?_) | (refine lwp_ret ?_) | (refine lwp_label ?_) | (refine lwp_region hC ⟨[], [], []⟩ (told0 _ _) rfl True.intro ?_) | (refine lwp_region hC ⟨[], [], []⟩ (told0 _ _) rfl (by ((try simp only [AllL, All, cd_p, cp_p, cv_p, InK, and_true, true_and]); all_goals ((repeat' (first | refine And.intro ?_ ?_ | intro _)) <;> first | omega | exact True.intro | assumption | (simp; done) | rfl | (simp_all; done) | (simp_all; omega)))) ?_)))
                    (refine lwp_cond hC rfl (by first | exact True.intro | ((try simp only [AllL, All, cd_p, cp_p, cv_p, InK, and_true, true_and]); all_goals ((repeat' (first | refine And.intro ?_ ?_ | intro _)) <;> first | omega | exact True.intro | assumption | (simp; done) | rfl | (simp_all; done) | (simp_all; omega)))) (fun hb => ?_) (fun hb => ?_) <;> (try simp only [decide_eq_true_eq, decide_eq_false_iff_not, Bool.not_eq_true', Bool.not_eq_false', ne_eq, Decidable.not_not] at hb))
                    · exact absurd hb (by decide)
                    · repeat first | refine lwp_seq fun K hK => ?_ | ((with_reducible refine thenS_normal ?_); apply_assumption -exfalso -symm) | refine thenS_exit ?_ | refine thenS_ret ?_ | refine inBlockS_normal ?_ | refine inBlockS_ret ?_ | refine inBlockS_hit rfl ?_ | refine inBlockS_miss rfl ?_ | refine lwp_block ?_ | refine lwp_skip ?_ | refine lwp_exit ?_ | refine lwp_ret ?_ | refine lwp_label ?_ | refine lwp_region hC ⟨[], [], []⟩ (told0 _ _) rfl True.intro ?_
                      (refine lwp_region hC ⟨[], [], [(0, Awake_i)]⟩ (told1 _ (by rw [hP]; exact (calls_cons (Awake_s) calls_nil))) rfl ?_ ?_; rotate_left 1)
                      · (repeat (first | (refine lwp_seq fun K hK => ?_) | (refine thenS_normal ?_; apply_assumption -exfalso -symm) | (refine thenS_exit ?_) | (refine thenS_ret ?_) | (refine inBlockS_normal ?_) | (refine inBlockS_ret ?_) | (refine inBlockS_hit rfl ?_) | (refine inBlockS_miss rfl ?_) | (refine lwp_block ?_) | (refine lwp_skip ?_) | (refine lwp_exit ?_) | (refine lwp_ret ?_) | (refine lwp_label ?_) | (refine lwp_region hC ⟨[], [], []⟩ (told0 _ _) rfl True.intro ?_) | (refine lwp_region hC ⟨[], [], []⟩ (told0 _ _) rfl (by ((try simp only [AllL, All, cd_p, cp_p, cv_p, InK, and_true, true_and]); all_goals ((repeat' (first | refine And.intro ?_ ?_ | intro _)) <;> first | omega | exact True.intro | assumption | (simp; done) | rfl | (simp_all; done) | (simp_all; omega)))) ?_)))
                        (refine end_intro (by first | exact .inr rfl | exact .inl rfl) [] rfl ?_)
                        exact ⟨rfl, trivial⟩
                      · ((try simp only [AllL, All, cd_p, cp_p, cv_p, InK, and_true, true_and]); all_goals ((repeat' (first | refine And.intro ?_ ?_ | intro _)) <;> first | omega | exact True.intro | assumption | (simp; done) | rfl | (simp_all; done) | (simp_all; omega)))
                  · have d1 : decide (J.2 < trueS E W (Int.tmod c 2001)) = false := decide_eq_false (by omega)
                    have d2 : decide (trueS E W (Int.tmod c 2001) < J.1) = false := decide_eq_false (by omega)
                    dsimp only
                    rw [d1, d2]
                    ((try simp only [AllL, All, cd_p, cp_p, cv_p, InK, and_true, true_and]); all_goals ((repeat' (first | refine And.intro ?_ ?_ | intro _)) <;> first | omega | exact True.intro | assumption | (simp; done) | rfl | (simp_all; done) | (simp_all; omega)))
                · ((try simp only [AllL, All, cd_p, cp_p, cv_p, InK, and_true, true_and]); all_goals ((repeat' (first | refine And.intro ?_ ?_ | intro _)) <;> first | omega | exact True.intro | assumption | (simp; done) | rfl | (simp_all; done) | (simp_all; omega)))
              · ((try simp only [AllL, All, cd_p, cp_p, cv_p, InK, and_true, true_and]); all_goals ((repeat' (first | refine And.intro ?_ ?_ | intro _)) <;> first | omega | exact True.intro | assumption | (simp; done) | rfl | (simp_all; done) | (simp_all; omega)))
          · ((try simp only [AllL, All, cd_p, cp_p, cv_p, InK, and_true, true_and]); all_goals ((repeat' (first | refine And.intro ?_ ?_ | intro _)) <;> first | omega | exact True.intro | assumption | (simp; done) | rfl | (simp_all; done) | (simp_all; omega)))
  · generalize decide ((g.length : Int) < 1) = x
    generalize decide (8 < (g.length : Int)) = y
    cases x <;> cases y
    all_goals
      ((try simp only [AllL, All, cd_p, cp_p, cv_p, InK, and_true, true_and]); all_goals ((repeat' (first | refine And.intro ?_ ?_ | intro _)) <;> first | omega | exact True.intro | assumption | (simp; done) | rfl | (simp_all; done) | (simp_all; omega)))

end Go.Proofs.YtpfafdnempehkaaGreatDoor
