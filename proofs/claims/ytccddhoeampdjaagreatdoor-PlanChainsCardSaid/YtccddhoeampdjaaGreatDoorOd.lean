/- Chapter 9: plans: the program's sums and checks. -/
import Derived.Test.YtccddhoeampdjaaGreatDoorOa
set_option linter.unusedVariables false
set_option linter.unusedSimpArgs false
namespace Go.Proofs.YtccddhoeampdjaaGreatDoor
open Go.RowKit Go.Sym

/-- What a valid office holds. -/
structure OffB (S : List Sec) (T : List Shf) : Prop where
  lS : S.length ≤ 7
  lT : T.length ≤ 5
  wk : ∀ k, 0 ≤ (S.getD k secD).wk ∧ (S.getD k secD).wk ≤ 1000
  sbl : ∀ k, 0 ≤ (S.getD k secD).bl ∧ (S.getD k secD).bl ≤ 10000
  vl : ∀ k, 0 ≤ (S.getD k secD).vl ∧ (S.getD k secD).vl ≤ 1000000
  wk1 : ∀ k, k < S.length → 1 ≤ (S.getD k secD).wk
  hr : ∀ k, 0 ≤ (T.getD k shfD).hr ∧ (T.getD k shfD).hr ≤ 1000
  tbl : ∀ k, 0 ≤ (T.getD k shfD).bl ∧ (T.getD k shfD).bl ≤ 10000
  rt : ∀ k, 0 ≤ (T.getD k shfD).rt ∧ (T.getD k shfD).rt ≤ 1000
  day : ∀ k, 0 ≤ (T.getD k shfD).day ∧ (T.getD k shfD).day ≤ 100000
  up : ∀ k, k + 1 < T.length → (T.getD k shfD).day ≤ (T.getD (k + 1) shfD).day
theorem getD_out {α : Type} {l : List α} {d : α} {k : Nat} (h : ¬ k < l.length) : l.getD k d = d := by
  rw [List.getD_eq_getElem?_getD, List.getElem?_eq_none (by omega)]; rfl
theorem offB {S : List Sec} {T : List Shf} (h : offE S T = 0) : OffB S T := by
  have h1 := (firstS_cons _ _).1 h
  have h2 := (firstS_cons _ _).1 h1.2
  have h3 := ((firstS_cons _ _).1 h2.2).1
  have m1 := (firstS_cons _ _).1 h1.1
  have n7 := of_decide_eq_false ((whenS_zero (by decide)).1 m1.1)
  have n5 := of_decide_eq_false ((whenS_zero (by decide)).1 ((firstS_cons _ _).1 m1.2).1)
  have hs : ∀ k, k < S.length → secE (S.getD k secD) = 0 := fun k hk => by
    have := firstR_zero h2.1 k hk
    exact ((firstS_cons _ _).1 ((firstS_cons _ _).1 ((firstS_cons _ _).1 this).2).2).1
  have ht : ∀ k, k < T.length → shfE (T.getD k shfD) = 0 ∧ lastDay T k = false := fun k hk => by
    have := firstR_zero h3 k hk
    have h4 := (firstS_cons _ _).1 this
    exact ⟨h4.1, (whenS_zero (by decide)).1 ((firstS_cons _ _).1 h4.2).1⟩
  have hs2 : ∀ k, k < S.length → (0 ≤ (S.getD k secD).dl ∧ (S.getD k secD).dl ≤ 100000) ∧ (1 ≤ (S.getD k secD).wk ∧ (S.getD k secD).wk ≤ 1000) ∧ (0 ≤ (S.getD k secD).bl ∧ (S.getD k secD).bl ≤ 10000) ∧ (0 ≤ (S.getD k secD).vl ∧ (S.getD k secD).vl ≤ 1000000) := fun k hk => by
    have h4 := (firstS_cons _ _).1 (hs k hk)
    have h5 := (firstS_cons _ _).1 h4.2
    have h6 := (firstS_cons _ _).1 h5.2
    exact ⟨withinS_zero.1 h4.1, withinS_zero.1 h5.1, withinS_zero.1 h6.1, withinS_zero.1 ((firstS_cons _ _).1 h6.2).1⟩
  have ht2 : ∀ k, k < T.length → (0 ≤ (T.getD k shfD).day ∧ (T.getD k shfD).day ≤ 100000) ∧ (0 ≤ (T.getD k shfD).hr ∧ (T.getD k shfD).hr ≤ 1000) ∧ (0 ≤ (T.getD k shfD).bl ∧ (T.getD k shfD).bl ≤ 10000) ∧ (0 ≤ (T.getD k shfD).rt ∧ (T.getD k shfD).rt ≤ 1000) := fun k hk => by
    have h4 := (firstS_cons _ _).1 (ht k hk).1
    have h5 := (firstS_cons _ _).1 h4.2
    have h6 := (firstS_cons _ _).1 h5.2
    exact ⟨withinS_zero.1 h4.1, withinS_zero.1 h5.1, withinS_zero.1 h6.1, withinS_zero.1 ((firstS_cons _ _).1 h6.2).1⟩
  have z : (0 : Int) ≤ 0 ∧ (0 : Int) ≤ 1000 := by omega
  refine ⟨by omega, by omega, fun k => ?_, fun k => ?_, fun k => ?_, fun k hk => (hs2 k hk).2.1.1, fun k => ?_, fun k => ?_, fun k => ?_, fun k => ?_, fun k hk => ?_⟩
  · by_cases hk : k < S.length
    · have := (hs2 k hk).2.1; omega
    · rw [getD_out hk]; exact z
  · by_cases hk : k < S.length
    · exact (hs2 k hk).2.2.1
    · rw [getD_out hk]; exact ⟨by decide, by decide⟩
  · by_cases hk : k < S.length
    · exact (hs2 k hk).2.2.2
    · rw [getD_out hk]; exact ⟨by decide, by decide⟩
  · by_cases hk : k < T.length
    · exact (ht2 k hk).2.1
    · rw [getD_out hk]; exact z
  · by_cases hk : k < T.length
    · exact (ht2 k hk).2.2.1
    · rw [getD_out hk]; exact ⟨by decide, by decide⟩
  · by_cases hk : k < T.length
    · exact (ht2 k hk).2.2.2
    · rw [getD_out hk]; exact z
  · by_cases hk : k < T.length
    · exact (ht2 k hk).1
    · rw [getD_out hk]; exact ⟨by decide, by decide⟩
  · have := (ht (k + 1) hk).2
    unfold lastDay at this
    rw [decide_eq_true (by omega)] at this
    have := of_decide_eq_false this
    simp only [Nat.add_sub_cancel] at this
    omega

/-- What the first sections of a plan use of a shift. -/
def useL (f : Sec → Int) (S : List Sec) (P : List Int) (k : Int) : Nat → Int
  | 0 => 0
  | n + 1 => useL f S P k n + (if P.getD n 0 = k then f (S.getD n secD) else 0)
theorem useL_in {f : Sec → Int} {S : List Sec} {P : List Int} {k M : Int} (hf : ∀ n, 0 ≤ f (S.getD n secD) ∧ f (S.getD n secD) ≤ M) : ∀ n : Nat, 0 ≤ useL f S P k n ∧ useL f S P k n ≤ n * M
  | 0 => by simp [useL]
  | n + 1 => by
    have h1 := useL_in (P := P) (k := k) hf n
    have h2 := hf n
    have e : ((n + 1 : Nat) : Int) * M = n * M + M := by rw [show ((n + 1 : Nat) : Int) = (n : Int) + 1 by omega, Int.add_mul, Int.one_mul]
    simp only [useL]
    split <;> omega
def leftH (S : List Sec) (T : List Shf) (P : List Int) (k : Nat) (n : Nat) : Int := (T.getD k shfD).hr - useL (·.wk) S P k n
def leftT (S : List Sec) (T : List Shf) (P : List Int) (k : Nat) (n : Nat) : Int := (T.getD k shfD).bl - useL (·.bl) S P k n
theorem left_in {S : List Sec} {T : List Shf} {P : List Int} {k n : Nat} (h : OffB S T) (hn : n ≤ 7) : (-7000 ≤ leftH S T P k n ∧ leftH S T P k n ≤ 1000) ∧ (-70000 ≤ leftT S T P k n ∧ leftT S T P k n ≤ 10000) := by
  have h1 := useL_in (f := (·.wk)) (S := S) (P := P) (k := k) (M := 1000) h.wk n
  have h2 := useL_in (f := (·.bl)) (S := S) (P := P) (k := k) (M := 10000) h.sbl n
  have h3 := h.hr k
  have h4 := h.tbl k
  unfold leftH leftT
  omega
def planIn (S : List Sec) (T : List Shf) (P : List Int) : List (Nat × Chunk) := [(0, .ro S.length 5 (secC S)), (1, .ro T.length 4 (shfC T)), (2, .ro P.length 1 (.ints .i64 P))]
def Left_i (S : List Sec) (T : List Shf) (P : List Int) (k : Nat) (σ : Ren) : Inst := { f := 99, hin := planIn S T P, args := [ofA S T, .sl 2 P.length, i64 k], hout := [], ret := .agg [i64 (leftH S T P k P.length), i64 (leftT S T P k P.length)], σ := σ }
set_option maxRecDepth 20000 in
theorem Left_s (S : List Sec) (T : List Shf) (P : List Int) (k : Nat) (σ : Ren) (hB : OffB S T) (hP : P.length ≤ S.length) (hk : k < T.length) : (Left_i S T P k σ).ok Tryz.prog := by
  have hP7 := Nat.le_trans hP hB.lS
  have hT5 := hB.lT
  have hkk : ((k : Int)).toNat = k := Int.toNat_natCast k
  unfold Left_i Inst.ok; dsimp only; refine spec_of_body (tys := tys) 3 Tryz.func99 (by kernel_rfl) rfl tys_ok rfl (Nat.le_of_ble_eq_true rfl) (fun _ _ h => (by cases h)) fun F hP hm hC hrd => ?_; conv => whnf
  repeat first | refine lwp_seq fun K hK => ?_ | (with_reducible refine gA ?_; apply_assumption -exfalso -symm) | refine Stp.h ?_ | refine gF rfl ?_ | refine gG rfl ?_ | refine gM hC rfl ⟨⟩ ?_
  (refine lwp_drawn hC (by rw [hP]; exact mixed) ⟨[], [], []⟩ (told0 _ _) [0, 1, 0, 7, 15, 31, 0, 64, 0, 448, 960, 1984, 4095, 0, 16383] 14 rfl ?_ ?_; rotate_left 1)
  · rw [hkk]
    repeat first | refine lwp_seq fun K hK => ?_ | (with_reducible refine gA ?_; apply_assumption -exfalso -symm) | refine Stp.h ?_ | refine gF rfl ?_ | refine gG rfl ?_ | refine gM hC rfl sd ?_
    refine lwp_loop (fun n : Nat => ⟨[(25, i64 n), (24, i64 P.length), (23, .sl 2 P.length), (2, i64 k), (3, .ptr 3 0 0 0), (6, .ptr 4 0 0 0), (7, .ptr 5 0 0 0)], [(5, .blk 161 [i64 (leftH S T P k n), i64 (leftT S T P k n)]), (4, .blk 161 [i64 0, i64 0]), (3, .blk 37 [.sl 0 S.length, .sl 1 T.length]), (0, .ro S.length 5 (secC S)), (1, .ro T.length 4 (shfC T)), (2, .ro P.length 1 (.ints .i64 P))], 6⟩) (fun n => n ≤ P.length) (fun n => P.length - n) 0 ⟨?_, sub_intro hm [(0, some 0), (1, some 1), (2, some 2), (3, some 3), (4, some 4), (5, some 5)] rfl ?_⟩ ?_
    · exact Nat.zero_le _
    · have e1 : leftH S T P k 0 = (T.getD k shfD).hr := by unfold leftH useL; omega
      have e2 : leftT S T P k 0 = (T.getD k shfD).bl := by unfold leftT useL; omega
      rw [e1, e2]
      clear hB
      exact sd
    · rintro n hn
      have hnn : ((n : Int)).toNat = n := Int.toNat_natCast n
      repeat first | refine lwp_seq fun K hK => ?_ | (with_reducible refine gA ?_; apply_assumption -exfalso -symm) | refine Stp.h ?_ | refine gF rfl ?_ | refine gG rfl ?_ | refine gM hC rfl sd ?_
      refine lwp_condS hC rfl sd ?_ ?_ <;> intro hb
      · have hi := left_in (P := P) (k := k) (n := n) hB (by omega)
        have hw := hB.wk n
        have hb2 := hB.sbl n
        have hnP : n < P.length := by omega
        have hnS : n < S.length := by omega
        repeat first | refine lwp_seq fun K hK => ?_ | (with_reducible refine gA ?_; apply_assumption -exfalso -symm) | refine Stp.h ?_ | refine gF rfl ?_ | refine gG rfl ?_ | refine gM hC rfl sd ?_
        rw [hnn]
        refine lwp_condS hC rfl sd ?_ ?_ <;> intro hb
        · have e1 : leftH S T P k (n + 1) = leftH S T P k n - (S.getD n secD).wk := by unfold leftH; simp only [useL, if_pos hb]; omega
          have e2 : leftT S T P k (n + 1) = leftT S T P k n - (S.getD n secD).bl := by unfold leftT; simp only [useL, if_pos hb]; omega
          clear hB
          repeat first | refine lwp_seq fun K hK => ?_ | (with_reducible refine gA ?_; apply_assumption -exfalso -symm) | refine Stp.h ?_ | refine gF rfl ?_ | refine gG rfl ?_ | refine gM hC rfl ⟨⟩ ?_
          (refine lwp_drawn hC (by rw [hP]; exact mixed) ⟨[], [], []⟩ (told0 _ _) [0, 1, 0, 4, 0, 28, 60, 124, 255, 511, 1023] 8 rfl ?_ ?_; rotate_left 1)
          · rw [hnn]
            repeat first | refine lwp_seq fun K hK => ?_ | (with_reducible refine gA ?_; apply_assumption -exfalso -symm) | refine Stp.h ?_ | refine gF rfl ?_ | refine gG rfl ?_ | refine gM hC rfl ⟨⟩ ?_
            (refine lwp_drawn hC (by rw [hP]; exact mixed) ⟨[], [], []⟩ (told0 _ _) [0, 1, 0, 4, 0, 28, 60, 124, 255, 511, 1023] 8 rfl ?_ ?_; rotate_left 1)
            · rw [hnn]
              repeat first | refine lwp_seq fun K hK => ?_ | (with_reducible refine gA ?_; apply_assumption -exfalso -symm) | refine Stp.h ?_ | refine gF rfl ?_ | refine gG rfl ?_ | refine gM hC rfl sd ?_
              refine gA ⟨n + 1, ?_, ?_, sub_intro hm [(0, some 0), (1, some 1), (2, some 2), (3, some 3), (4, some 4), (5, some 5)] rfl ?_⟩
              · omega
              · omega
              · rw [e1, e2]
                exact sd
            · rw [hnn]
              exact sd
          · rw [hnn]
            exact sd
        · have e1 : leftH S T P k (n + 1) = leftH S T P k n := by unfold leftH; simp only [useL, if_neg hb]; omega
          have e2 : leftT S T P k (n + 1) = leftT S T P k n := by unfold leftT; simp only [useL, if_neg hb]; omega
          clear hB
          repeat first | refine lwp_seq fun K hK => ?_ | (with_reducible refine gA ?_; apply_assumption -exfalso -symm) | refine Stp.h ?_ | refine gF rfl ?_ | refine gG rfl ?_ | refine gM hC rfl sd ?_
          refine gA ⟨n + 1, ?_, ?_, sub_intro hm [(0, some 0), (1, some 1), (2, some 2), (3, some 3), (4, some 4), (5, some 5)] rfl ?_⟩
          · omega
          · omega
          · rw [e1, e2]
            exact sd
      · obtain rfl : n = P.length := by omega
        repeat first | refine lwp_seq fun K hK => ?_ | (with_reducible refine gA ?_; apply_assumption -exfalso -symm) | refine Stp.h ?_ | refine gF rfl ?_ | refine gG rfl ?_ | refine gM hC rfl sd ?_
        (refine end_intro (by first | exact .inr rfl | exact .inl rfl) [] rfl ?_)
        exact ⟨rfl, rfl, trivial⟩
  · rw [hkk]
    clear hB
    exact sd
def inTimeB (S : List Sec) (T : List Shf) (i k : Nat) : Bool := decide ((T.getD k shfD).day ≤ (S.getD i secD).dl)
def InT_i (S : List Sec) (T : List Shf) (i k : Nat) (σ : Ren) : Inst := { f := 106, hin := offIn S T, args := [ofA S T, i64 i, i64 k], hout := [], ret := bl (inTimeB S T i k), σ := σ }
theorem InT_s (S : List Sec) (T : List Shf) (i k : Nat) (σ : Ren) (hi : i < S.length) (hk : k < T.length) (hS : S.length ≤ 1000) (hT : T.length ≤ 1000) : (InT_i S T i k σ).ok Tryz.prog := by
  have hkk : ((k : Int)).toNat = k := Int.toNat_natCast k
  have hii : ((i : Int)).toNat = i := Int.toNat_natCast i
  unfold InT_i Inst.ok; dsimp only; refine spec_of_body (tys := tys) 2 Tryz.func106 (by kernel_rfl) rfl tys_ok rfl (Nat.le_of_ble_eq_true rfl) (fun _ _ h => (by cases h)) fun F hP hm hC hrd => ?_; conv => whnf
  repeat first | refine lwp_seq fun K hK => ?_ | (with_reducible refine gA ?_; apply_assumption -exfalso -symm) | refine Stp.h ?_ | refine gF rfl ?_ | refine gG rfl ?_ | refine gM hC rfl ⟨⟩ ?_
  (refine lwp_drawn hC (by rw [hP]; exact mixed) ⟨[], [], []⟩ (told0 _ _) [0, 1, 0, 7, 15, 31, 0, 64, 0, 448, 960, 1984, 4095, 8191] 12 rfl ?_ ?_; rotate_left 1)
  · rw [hkk, hii]
    repeat first | refine lwp_seq fun K hK => ?_ | (with_reducible refine gA ?_; apply_assumption -exfalso -symm) | refine Stp.h ?_ | refine gF rfl ?_ | refine gG rfl ?_ | refine gM hC rfl sd ?_
    (refine end_intro (by first | exact .inr rfl | exact .inl rfl) [] rfl ?_)
    exact ⟨rfl, trivial⟩
  · rw [hkk, hii]
    exact sd

end Go.Proofs.YtccddhoeampdjaaGreatDoor
