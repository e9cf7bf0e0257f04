/- PlanChecks: the last day, lists of pairs, and the law. -/
import Derived.Test.YtccddhoeampdjaaGreatDoorOg
import Derived.Test.YtccddhoeampdjaaGreatDoorOc
import Derived.Test.YtccddhoeampdjaaGreatDoorPb
import Derived.Test.YtccddhoeampdjaaGreatDoorPx
set_option linter.unusedVariables false
set_option linter.unusedSimpArgs false
namespace Go.Proofs.YtccddhoeampdjaaGreatDoor
open Go.RowKit Go.Sym

theorem useL_none {f : Sec → Int} {S : List Sec} {P : List Int} {k : Int} : ∀ n, (∀ i, i < n → P.getD i 0 ≠ k) → useL f S P k n = 0
  | 0, _ => rfl
  | n + 1, h => by simp only [useL, if_neg (h n (by omega)), useL_none n fun i hi => h i (by omega)]; omega
theorem useL_some {S : List Sec} {T : List Shf} {P : List Int} {k : Int} (hB : OffB S T) : ∀ n, n ≤ S.length → (∃ i, i < n ∧ P.getD i 0 = k) → 1 ≤ useL (·.wk) S P k n
  | 0, _, ⟨i, hi, _⟩ => by omega
  | n + 1, hn, ⟨i, hi, e⟩ => by
    have h0 := useL_in (f := (·.wk)) (S := S) (P := P) (k := k) (M := 1000) hB.wk n
    by_cases hin : i = n
    · subst hin
      have := hB.wk1 i (by omega)
      simp only [useL, if_pos e]
      omega
    · have h1 := useL_some (P := P) (k := k) hB n (by omega) ⟨i, by omega, e⟩
      have := hB.wk n
      simp only [useL]
      split <;> omega
theorem usedB_iff {S : List Sec} {T : List Shf} {P : List Int} {k : Nat} (h : PlanB S T P) : usedB S T P k = true ↔ ∃ i, i < P.length ∧ P.getD i 0 = k := by
  unfold usedB leftH leftT
  constructor
  · intro hu
    refine Classical.byContradiction fun hn => ?_
    have hn : ∀ i, i < P.length → P.getD i 0 ≠ (k : Int) := fun i hi e => hn ⟨i, hi, e⟩
    rw [useL_none _ hn, useL_none _ hn] at hu
    simp at hu
  · intro he
    have := useL_some (P := P) (k := (k : Int)) h.B P.length (by rw [h.l]; exact Nat.le_refl _) he
    have e : ((T.getD k shfD).hr - useL (·.wk) S P k P.length == (T.getD k shfD).hr) = false := by
      rw [beq_eq_false_iff_ne]; omega
    rw [e]; rfl
theorem day_up {S : List Sec} {T : List Shf} (h : OffB S T) {j : Nat} : ∀ k, j ≤ k → k < T.length → (T.getD j shfD).day ≤ (T.getD k shfD).day
  | 0, hj, _ => by obtain rfl : j = 0 := by omega
                   exact Int.le_refl _
  | k + 1, hj, hk => by
    rcases Nat.lt_or_ge j (k + 1) with hlt | hge
    · exact Int.le_trans (day_up h k (by omega) (by omega)) (h.up k hk)
    · obtain rfl : j = k + 1 := by omega
      exact Int.le_refl _
def lastR (T : List Shf) (P : List Int) : Nat → Int
  | 0 => -1
  | n + 1 => if 0 ≤ P.getD n 0 then (if (T.getD (P.getD n 0).toNat shfD).day > lastR T P n then (T.getD (P.getD n 0).toNat shfD).day else lastR T P n) else lastR T P n
theorem lastP_char {S : List Sec} {T : List Shf} {P : List Int} (h : OffB S T) : ∀ K, K ≤ T.length → (lastP S T P K = -1 ∧ ∀ k, k < K → usedB S T P k = false) ∨ (∃ k, k < K ∧ usedB S T P k = true ∧ lastP S T P K = (T.getD k shfD).day ∧ ∀ j, j < K → usedB S T P j = true → (T.getD j shfD).day ≤ lastP S T P K)
  | 0, _ => .inl ⟨rfl, fun k hk => absurd hk (Nat.not_lt_zero _)⟩
  | K + 1, hK => by
    cases hu : usedB S T P K with
    | true =>
      refine .inr ⟨K, by omega, hu, by simp only [lastP, hu, if_true], fun j hj _ => ?_⟩
      simp only [lastP, hu, if_true]
      exact day_up h K (by omega) (by omega)
    | false =>
      have e : lastP S T P (K + 1) = lastP S T P K := by simp [lastP, hu]
      rw [e]
      rcases lastP_char (P := P) h K (by omega) with ⟨h1, h2⟩ | ⟨k, h1, h2, h3, h4⟩
      · refine .inl ⟨h1, fun k hk => ?_⟩
        by_cases hkK : k = K
        · subst hkK; exact hu
        · exact h2 k (by omega)
      · refine .inr ⟨k, by omega, h2, h3, fun j hj hju => ?_⟩
        by_cases hjK : j = K
        · subst hjK; rw [hu] at hju; cases hju
        · exact h4 j (by omega) hju
theorem lastR_char {S : List Sec} {T : List Shf} {P : List Int} (h : OffB S T) : ∀ n, (lastR T P n = -1 ∧ ∀ i, i < n → P.getD i 0 < 0) ∨ (∃ i, i < n ∧ 0 ≤ P.getD i 0 ∧ lastR T P n = (T.getD (P.getD i 0).toNat shfD).day ∧ ∀ j, j < n → 0 ≤ P.getD j 0 → (T.getD (P.getD j 0).toNat shfD).day ≤ lastR T P n)
  | 0 => .inl ⟨rfl, fun k hk => absurd hk (Nat.not_lt_zero _)⟩
  | n + 1 => by
    have hd := h.day (P.getD n 0).toNat
    simp only [lastR]
    by_cases hn : 0 ≤ P.getD n 0
    · rw [if_pos hn]
      by_cases hg : (T.getD (P.getD n 0).toNat shfD).day > lastR T P n
      · rw [if_pos hg]
        refine .inr ⟨n, by omega, hn, rfl, fun j hj hj0 => ?_⟩
        by_cases hjn : j = n
        · subst hjn; exact Int.le_refl _
        · rcases lastR_char (P := P) h n with ⟨h1, h2⟩ | ⟨i, h1, h2, h3, h4⟩
          · have := h2 j (by omega); omega
          · have := h4 j (by omega) hj0; omega
      · rw [if_neg hg]
        rcases lastR_char (P := P) h n with ⟨h1, h2⟩ | ⟨i, h1, h2, h3, h4⟩
        · omega
        · refine .inr ⟨i, by omega, h2, h3, fun j hj hj0 => ?_⟩
          by_cases hjn : j = n
          · subst hjn; omega
          · exact h4 j (by omega) hj0
    · rw [if_neg hn]
      rcases lastR_char (P := P) h n with ⟨h1, h2⟩ | ⟨i, h1, h2, h3, h4⟩
      · refine .inl ⟨h1, fun i hi => ?_⟩
        by_cases hin : i = n
        · subst hin; omega
        · exact h2 i (by omega)
      · refine .inr ⟨i, by omega, h2, h3, fun j hj hj0 => ?_⟩
        by_cases hjn : j = n
        · subst hjn; omega
        · exact h4 j (by omega) hj0
theorem last_eq {S : List Sec} {T : List Shf} {P : List Int} (h : PlanB S T P) : lastP S T P T.length = lastR T P P.length := by
  rcases lastP_char (P := P) h.B T.length (Nat.le_refl _) with ⟨h1, h2⟩ | ⟨k, h1, h2, h3, h4⟩ <;> rcases lastR_char (P := P) h.B P.length with ⟨g1, g2⟩ | ⟨i, g1, g2, g3, g4⟩
  · omega
  · have hi := (h.o i g1).2
    have := h2 (P.getD i 0).toNat (by omega)
    rw [(usedB_iff h).2 ⟨i, g1, by omega⟩] at this
    cases this
  · obtain ⟨i, hi, e⟩ := (usedB_iff h).1 h2
    have := g2 i hi
    omega
  · have hi := (h.o i g1).2
    have a1 := h4 (P.getD i 0).toNat (by omega) ((usedB_iff h).2 ⟨i, g1, by omega⟩)
    obtain ⟨j, hj, e⟩ := (usedB_iff h).1 h2
    have a2 := g4 j hj (by omega)
    rw [e, Int.toNat_natCast] at a2
    omega
theorem lastR_in {S : List Sec} {T : List Shf} {P : List Int} (h : OffB S T) (n : Nat) : -1 ≤ lastR T P n ∧ lastR T P n ≤ 100000 := by
  rcases lastR_char (P := P) h n with ⟨h1, _⟩ | ⟨i, _, _, h3, _⟩
  · omega
  · have := h.day (P.getD i 0).toNat; omega
def RLast_i (S : List Sec) (T : List Shf) (P : List Int) (σ : Ren) : Inst := { f := 35, hin := planIn S T P, args := [ofA S T, .sl 2 P.length], hout := [], ret := .tup [i64 (lastS S T P).1, i64 (lastS S T P).2], σ := σ }
set_option maxRecDepth 20000 in
theorem RLast_s (S : List Sec) (T : List Shf) (P : List Int) (σ : Ren) (hz : planE S T P = 0) : (RLast_i S T P σ).ok Tryz.prog := by
  have hKp := planB hz
  have e : lastS S T P = (max (lastP S T P T.length) 0, whenS (decide (lastP S T P T.length < 0)) 7) := if_pos hz
  rw [last_eq hKp] at e
  have hS7 := hKp.B.lS
  have hT5 := hKp.B.lT
  have hl := hKp.l
  have HK := Lib.hid hKp
  clear hKp hz
  unfold RLast_i Inst.ok; dsimp only; refine spec_of_body (tys := tys) 3 Tryz.func35 (by kernel_rfl) rfl tys_ok rfl (Nat.le_of_ble_eq_true rfl) (fun _ _ h => (by cases h)) fun F hP hm hC hrd => ?_; conv => whnf
  repeat first | refine lwp_seq fun K hK => ?_ | (with_reducible refine gA ?_; apply_assumption -exfalso -symm) | refine Stp.h ?_ | refine gF rfl ?_ | refine gG rfl ?_ | refine gM hC rfl sd ?_
  refine lwp_loop (fun n : Nat => ⟨[(7, i64 n), (6, i64 (lastR T P n)), (1, .sl 2 P.length), (2, .ptr 3 0 0 0)], [(3, .blk 25 [.sl 0 S.length, .sl 1 T.length]), (0, .ro S.length 5 (secC S)), (1, .ro T.length 4 (shfC T)), (2, .ro P.length 1 (.ints .i64 P))], 4⟩) (fun n => n ≤ P.length) (fun n => P.length - n) 0 ⟨?_, sub_intro hm [(0, some 0), (1, some 1), (2, some 2), (3, some 3)] rfl ?_⟩ ?_
  · exact Nat.zero_le _
  · exact sd
  · rintro n hn
    have hnn : ((n : Int)).toNat = n := Int.toNat_natCast n
    repeat first | refine lwp_seq fun K hK => ?_ | (with_reducible refine gA ?_; apply_assumption -exfalso -symm) | refine Stp.h ?_ | refine gF rfl ?_ | refine gG rfl ?_ | refine gM hC rfl sd ?_
    refine lwp_condS hC rfl sd ?_ ?_ <;> intro hb
    · have hn2 : n < P.length := by omega
      have ho := HK.out.o n hn2
      repeat first | refine lwp_seq fun K hK => ?_ | (with_reducible refine gA ?_; apply_assumption -exfalso -symm) | refine Stp.h ?_ | refine gF rfl ?_ | refine gG rfl ?_ | refine gM hC rfl sd ?_
      rw [hnn]
      refine lwp_condS hC rfl sd ?_ ?_ <;> intro hb
      · have hb : 0 ≤ P.getD n 0 := hb
        have e1 : lastR T P (n + 1) = if (T.getD (P.getD n 0).toNat shfD).day > lastR T P n then (T.getD (P.getD n 0).toNat shfD).day else lastR T P n := by simp only [lastR, if_pos hb]
        repeat first | refine lwp_seq fun K hK => ?_ | (with_reducible refine gA ?_; apply_assumption -exfalso -symm) | refine Stp.h ?_ | refine gF rfl ?_ | refine gG rfl ?_ | refine gM hC rfl ⟨⟩ ?_
        (refine lwp_drawn hC (by rw [hP]; exact mixed) ⟨[], [], []⟩ (told0 _ _) [0, 0, 2, 0, 0, 24, 56, 126, 254, 510, 1023, 2047] 10 rfl ?_ ?_; rotate_left 1)
        · rw [hnn]
          repeat first | refine lwp_seq fun K hK => ?_ | (with_reducible refine gA ?_; apply_assumption -exfalso -symm) | refine Stp.h ?_ | refine gF rfl ?_ | refine gG rfl ?_ | refine gM hC rfl sd ?_
          refine gA ⟨n + 1, ?_, ?_, sub_intro hm [(0, some 0), (1, some 1), (2, some 2), (3, some 3)] rfl ?_⟩
          · omega
          · omega
          · rw [e1]
            exact sd
        · rw [hnn]
          exact sd
      · have hb : ¬ 0 ≤ P.getD n 0 := hb
        have e1 : lastR T P (n + 1) = lastR T P n := by simp only [lastR, if_neg hb]
        repeat first | refine lwp_seq fun K hK => ?_ | (with_reducible refine gA ?_; apply_assumption -exfalso -symm) | refine Stp.h ?_ | refine gF rfl ?_ | refine gG rfl ?_ | refine gM hC rfl sd ?_
        refine gA ⟨n + 1, ?_, ?_, sub_intro hm [(0, some 0), (1, some 1), (2, some 2), (3, some 3)] rfl ?_⟩
        · omega
        · omega
        · rw [e1]
          exact sd
    · obtain rfl : n = P.length := by omega
      clear hb hn hnn
      repeat first | refine lwp_seq fun K hK => ?_ | (with_reducible refine gA ?_; apply_assumption -exfalso -symm) | refine Stp.h ?_ | refine gF rfl ?_ | refine gG rfl ?_ | refine gM hC rfl sd ?_
      refine lwp_condS hC rfl sd ?_ ?_ <;> intro hb
      · rw [decide_eq_true hb, show max (lastR T P P.length) 0 = 0 by omega] at e
        repeat first | refine lwp_seq fun K hK => ?_ | (with_reducible refine gA ?_; apply_assumption -exfalso -symm) | refine Stp.h ?_ | refine gF rfl ?_ | refine gG rfl ?_ | refine gM hC rfl sd ?_
        (refine end_intro (by first | exact .inr rfl | exact .inl rfl) [] rfl ?_)
        rw [e]
        exact ⟨rfl, rfl, trivial⟩
      · rw [decide_eq_false hb, show max (lastR T P P.length) 0 = lastR T P P.length by omega] at e
        repeat first | refine lwp_seq fun K hK => ?_ | (with_reducible refine gA ?_; apply_assumption -exfalso -symm) | refine Stp.h ?_ | refine gF rfl ?_ | refine gG rfl ?_ | refine gM hC rfl sd ?_
        (refine end_intro (by first | exact .inr rfl | exact .inl rfl) [] rfl ?_)
        rw [e]
        exact ⟨rfl, rfl, trivial⟩
def Same_i (l : List (Int × Int)) (σ : Ren) : Inst := { f := 36, hin := [(0, .ro l.length 2 (p2C l)), (1, .ro l.length 2 (p2C l))], args := [.sl 0 l.length, .sl 1 l.length], hout := [], ret := bl true, σ := σ }
set_option maxRecDepth 20000 in
theorem Same_s (l : List (Int × Int)) (σ : Ren) (hl : l.length ≤ 1000000) : (Same_i l σ).ok Tryz.prog := by
  unfold Same_i Inst.ok; dsimp only; refine spec_of_body (tys := tys) 2 Tryz.func36 (by kernel_rfl) rfl tys_ok rfl (Nat.le_of_ble_eq_true rfl) (fun _ _ h => (by cases h)) fun F hP hm hC hrd => ?_; conv => whnf
  repeat first | refine lwp_seq fun K hK => ?_ | (with_reducible refine gA ?_; apply_assumption -exfalso -symm) | refine Stp.h ?_ | refine gF rfl ?_ | refine gG rfl ?_ | refine gM hC rfl sd ?_
  refine lwp_condS hC rfl sd ?_ ?_ <;> intro hb
  · exact absurd rfl hb
  · clear hb
    repeat first | refine lwp_seq fun K hK => ?_ | (with_reducible refine gA ?_; apply_assumption -exfalso -symm) | refine Stp.h ?_ | refine gF rfl ?_ | refine gG rfl ?_ | refine gM hC rfl sd ?_
    refine lwp_loop (fun k : Nat => ⟨[(5, i64 k), (0, .sl 0 l.length), (1, .sl 1 l.length)], [(0, .ro l.length 2 (p2C l)), (1, .ro l.length 2 (p2C l))], 2⟩) (fun k => k ≤ l.length) (fun k => l.length - k) 0 ⟨?_, sub_intro hm [(0, some 0), (1, some 1)] rfl ?_⟩ ?_
    · exact Nat.zero_le _
    · exact sd
    · rintro k hk
      have hkk : ((k : Int)).toNat = k := Int.toNat_natCast k
      repeat first | refine lwp_seq fun K hK => ?_ | (with_reducible refine gA ?_; apply_assumption -exfalso -symm) | refine Stp.h ?_ | refine gF rfl ?_ | refine gG rfl ?_ | refine gM hC rfl sd ?_
      refine lwp_condS hC rfl sd ?_ ?_ <;> intro hb
      · have hk2 : k < l.length := by omega
        repeat first | refine lwp_seq fun K hK => ?_ | (with_reducible refine gA ?_; apply_assumption -exfalso -symm) | refine Stp.h ?_ | refine gF rfl ?_ | refine gG rfl ?_ | refine gM hC rfl ⟨⟩ ?_
        (refine lwp_drawn hC (by rw [hP]; exact mixed) ⟨[], [(8, custI2N)], []⟩ ⟨(fun p hp => by rcases List.mem_cons.1 hp with rfl | hp; rw [hP]; exact custI2N_ok; cases hp), (fun _ h => (by cases h))⟩ [0, 0, 3, 7, 0, 0, 48, 112, 255] 8 rfl ?_ ?_; rotate_left 1)
        · rw [hkk]
          repeat first | refine lwp_seq fun K hK => ?_ | (with_reducible refine gA ?_; apply_assumption -exfalso -symm) | refine Stp.h ?_ | refine gF rfl ?_ | refine gG rfl ?_ | refine gM hC rfl ⟨⟩ ?_
          refine lwp_condS hC rfl sd ?_ ?_ <;> intro hb
          · simp at hb
          · repeat first | refine lwp_seq fun K hK => ?_ | (with_reducible refine gA ?_; apply_assumption -exfalso -symm) | refine Stp.h ?_ | refine gF rfl ?_ | refine gG rfl ?_ | refine gM hC rfl sd ?_
            refine gA ⟨k + 1, ?_, ?_, sub_intro hm [(0, some 0), (1, some 1)] rfl ?_⟩
            · omega
            · omega
            · exact sd
        · rw [hkk]
          exact sd
      · repeat first | refine lwp_seq fun K hK => ?_ | (with_reducible refine gA ?_; apply_assumption -exfalso -symm) | refine Stp.h ?_ | refine gF rfl ?_ | refine gG rfl ?_ | refine gM hC rfl sd ?_
        (refine end_intro (by first | exact .inr rfl | exact .inl rfl) [] rfl ?_)
        exact ⟨rfl, trivial⟩

def LawCh_i (S : List Sec) (T : List Shf) (P : List Int) : Inst := { f := 4, gl := lawG, hin := [(0, pwC), (1, kdC), (2, .ro S.length 5 (secC S)), (3, .ro T.length 4 (shfC T)), (4, .ro P.length 1 (.ints .i64 P))], args := [.agg [.sl 2 S.length, .sl 3 T.length], .sl 4 P.length], hout := [], ret := bl true, σ := [] }
set_option maxRecDepth 20000 in
set_option maxHeartbeats 4000000 in
theorem LawCh_s (S : List Sec) (T : List Shf) (P : List Int) (hS : S.length ≤ 9223372036854775807) (hT : T.length ≤ 9223372036854775807) (hPl : P.length ≤ 9223372036854775807) : (LawCh_i S T P).ok Tryz.prog := by
  unfold LawCh_i Inst.ok; dsimp only; refine spec_of_body (tys := tys) 5 Tryz.func4 (by kernel_rfl) rfl tys_ok rfl (Nat.le_of_ble_eq_true rfl) (fun g i h => by simp only [List.mem_cons, List.not_mem_nil, or_false, Prod.mk.injEq] at h; omega) fun F hP hm hC hrd => ?_; conv => whnf
  repeat first | refine lwp_seq fun K hK => ?_ | (with_reducible refine gA ?_; apply_assumption -exfalso -symm) | refine Stp.h ?_ | refine gF rfl ?_ | refine gG rfl ?_ | refine gM hC rfl ⟨⟩ ?_
  by_cases c1 : shortO S T = true
  · by_cases c2 : (P.length : Int) > 8
    · (refine lwp_region hC ⟨[(3, { b := some false })], [], [(1, ShortO_i S T [(0, some 2), (1, some 3)])]⟩ (told1 _ (by rw [hP]; exact (calls_cons (ShortO_s _ _ _ hS hT) calls_nil))) rfl ?_ ?_; rotate_left 1)
      · repeat first | refine lwp_seq fun K hK => ?_ | (with_reducible refine gA ?_; apply_assumption -exfalso -symm) | refine Stp.h ?_ | refine gF rfl ?_ | refine gG rfl ?_ | refine gM hC rfl ⟨⟩ ?_
        refine lwp_condS hC rfl sd ?_ ?_ <;> intro hb
        · repeat first | refine lwp_seq fun K hK => ?_ | (with_reducible refine gA ?_; apply_assumption -exfalso -symm) | refine Stp.h ?_ | refine gF rfl ?_ | refine gG rfl ?_ | refine gM hC rfl ⟨⟩ ?_
          (refine lwp_region hC ⟨[], [], [(0, Awake_i)]⟩ (told1 _ (by rw [hP]; exact (calls_cons (Awake_s) calls_nil))) rfl ?_ ?_; rotate_left 1)
          · repeat first | refine lwp_seq fun K hK => ?_ | (with_reducible refine gA ?_; apply_assumption -exfalso -symm) | refine Stp.h ?_ | refine gF rfl ?_ | refine gG rfl ?_ | refine gM hC rfl sd ?_
            (refine end_intro (by first | exact .inr rfl | exact .inl rfl) [] rfl ?_)
            exact ⟨rfl, trivial⟩
          · exact sd
        · exfalso; simp_all <;> omega
      · simp [AllL, All, *]
    · obtain ⟨hN, s8, t6⟩ := shortO_len c1
      (refine lwp_region hC ⟨[(3, { b := some false })], [], [(1, ShortO_i S T [(0, some 2), (1, some 3)])]⟩ (told1 _ (by rw [hP]; exact (calls_cons (ShortO_s _ _ _ hS hT) calls_nil))) rfl ?_ ?_; rotate_left 1)
      · repeat first | refine lwp_seq fun K hK => ?_ | (with_reducible refine gA ?_; apply_assumption -exfalso -symm) | refine Stp.h ?_ | refine gF rfl ?_ | refine gG rfl ?_ | refine gM hC rfl ⟨⟩ ?_
        refine lwp_condS hC rfl sd ?_ ?_ <;> intro hb
        · exfalso; simp_all <;> omega
        · clear hb c1
          have HN := Lib.hid hN
          clear hN
          repeat first | refine lwp_seq fun K hK => ?_ | (with_reducible refine gA ?_; apply_assumption -exfalso -symm) | refine Stp.h ?_ | refine gF rfl ?_ | refine gG rfl ?_ | refine gM hC rfl ⟨⟩ ?_
          (refine lwp_region hC ⟨[], [], [(1, Own_i S T [(0, some 2), (1, some 3)]), (3, LInts_i P [(0, some 4)]), (4, CheckP_i S T P [(0, some 6), (1, some 7), (2, some 8)])]⟩ (told1 _ (by rw [hP]; exact (calls_cons (Own_s _ _ _ (by omega) (by omega)) (calls_cons (LInts_s _ _ (by omega)) (calls_cons (CheckP_s _ _ _ _ (by omega) (by omega) (by omega)) calls_nil))))) rfl ?_ ?_; rotate_left 1)
          · repeat first | refine lwp_seq fun K hK => ?_ | (with_reducible refine gA ?_; apply_assumption -exfalso -symm) | refine Stp.h ?_ | refine gF rfl ?_ | refine gG rfl ?_ | refine gM hC rfl ⟨⟩ ?_
            (refine lwp_region hC ⟨[], [], [(1, Own_i S T [(0, some 2), (1, some 3)]), (3, LInts_i P [(0, some 4)]), (4, PLeft_i S T P [(0, some 11), (1, some 12), (2, some 13)])]⟩ (told1 _ (by rw [hP]; exact (calls_cons (Own_s _ _ _ (by omega) (by omega)) (calls_cons (LInts_s _ _ (by omega)) (calls_cons (PLeft_s _ _ _ _ (by omega) (by omega) (by omega)) calls_nil))))) rfl ?_ ?_; rotate_left 1)
            · repeat first | refine lwp_seq fun K hK => ?_ | (with_reducible refine gA ?_; apply_assumption -exfalso -symm) | refine Stp.h ?_ | refine gF rfl ?_ | refine gG rfl ?_ | refine gM hC rfl ⟨⟩ ?_
              (refine lwp_region hC ⟨[], [], [(1, Own_i S T [(0, some 2), (1, some 3)]), (3, LInts_i P [(0, some 4)]), (4, PLast_i S T P [(0, some 15), (1, some 16), (2, some 17)])]⟩ (told1 _ (by rw [hP]; exact (calls_cons (Own_s _ _ _ (by omega) (by omega)) (calls_cons (LInts_s _ _ (by omega)) (calls_cons (PLast_s _ _ _ _ (by omega) (by omega) (by omega)) calls_nil))))) rfl ?_ ?_; rotate_left 1)
              · repeat first | refine lwp_seq fun K hK => ?_ | (with_reducible refine gA ?_; apply_assumption -exfalso -symm) | refine Stp.h ?_ | refine gF rfl ?_ | refine gG rfl ?_ | refine gM hC rfl ⟨⟩ ?_
                (refine lwp_region hC ⟨[], [], [(1, ROff_i S T [(0, some 2), (1, some 3)])]⟩ (told1 _ (by rw [hP]; exact (calls_cons (ROff_s _ _ _ (by omega) (by omega) HN.out) calls_nil))) rfl ?_ ?_; rotate_left 1)
                · ((with_reducible refine gA ?_); apply_assumption -exfalso -symm)
                  refine lwp_cut (t := ⟨[(2, .ptr 5 0 0 0), (1, .sl 4 P.length), (5, .ptr 6 0 0 0), (6, i64 (planE S T P)), (7, .sl 7 (leftR S T P).length), (8, i64 (planE S T P)), (9, i64 (lastS S T P).1), (10, i64 (lastS S T P).2), (11, i64 (planE S T P))], [(7, .row 161 (leftR S T P).length 2 (p2C (leftR S T P))), (6, .blk 30 [i64 (planV S T P).1, i64 (planV S T P).2]), (5, .blk 25 [.sl 2 S.length, .sl 3 T.length]), (4, .ro P.length 1 (.ints .i64 P)), (3, .ro T.length 4 (shfC T)), (2, .ro S.length 5 (secC S)), (0, pwC), (1, kdC)], 8⟩) ?_ ?_
                  · repeat first | refine lwp_seq fun K hK => ?_ | (with_reducible refine gA ?_; apply_assumption -exfalso -symm) | refine Stp.h ?_ | refine gF rfl ?_ | refine gG rfl ?_ | refine gM hC rfl sd ?_
                    refine lwp_condS hC rfl sd ?_ ?_ <;> intro hb
                    · have hB := offB hb
                      have e1 : planE S T P = cpE S T P := if_pos hb
                      repeat first | refine lwp_seq fun K hK => ?_ | (with_reducible refine gA ?_; apply_assumption -exfalso -symm) | refine Stp.h ?_ | refine gF rfl ?_ | refine gG rfl ?_ | refine gM hC rfl sd ?_
                      (refine lwp_region hC ⟨[], [], [(2, RCPlan_i S T P [(0, some 2), (1, some 3), (2, some 4)])]⟩ (told1 _ (by rw [hP]; exact (calls_cons (RCPlan_s _ _ _ _ hB (by omega)) calls_nil))) rfl ?_ ?_; rotate_left 1)
                      · repeat first | refine lwp_seq fun K hK => ?_ | (with_reducible refine gA ?_; apply_assumption -exfalso -symm) | refine Stp.h ?_ | refine gF rfl ?_ | refine gG rfl ?_ | refine gM hC rfl sd ?_
                        rw [← e1]
                        refine gA (sub_intro hm [(0, some 0), (1, some 1), (2, some 2), (3, some 3), (4, some 4), (5, some 5), (6, some 9), (7, some 14)] rfl ?_)
                        exact sd
                      · exact sd
                    · have e1 : planE S T P = offE S T := if_neg hb
                      repeat first | refine lwp_seq fun K hK => ?_ | (with_reducible refine gA ?_; apply_assumption -exfalso -symm) | refine Stp.h ?_ | refine gF rfl ?_ | refine gG rfl ?_ | refine gM hC rfl sd ?_
                      rw [← e1]
                      refine gA (sub_intro hm [(0, some 0), (1, some 1), (2, some 2), (3, some 3), (4, some 4), (5, some 5), (6, some 9), (7, some 14)] rfl ?_)
                      exact sd
                  · refine lwp_seq fun K hK => ?_
                    (refine lwp_region hC ⟨[], [], []⟩ (told0 _ _) rfl ?_ ?_; rotate_left 1)
                    · ((with_reducible refine gA ?_); apply_assumption -exfalso -symm)
                      refine lwp_seq fun K hK => ?_
                      (refine lwp_region hC ⟨[], [], []⟩ (told0 _ _) rfl ?_ ?_; rotate_left 1)
                      · ((with_reducible refine gA ?_); apply_assumption -exfalso -symm)
                        refine lwp_seq fun K hK => ?_
                        (refine lwp_region hC ⟨[], [], []⟩ (told0 _ _) rfl ?_ ?_; rotate_left 1)
                        · ((with_reducible refine gA ?_); apply_assumption -exfalso -symm)
                          refine lwp_cut (t := ⟨[(5, .ptr 6 0 0 0), (6, i64 (planE S T P)), (7, .sl 7 (leftR S T P).length), (8, i64 (planE S T P)), (9, i64 (lastS S T P).1), (10, i64 (lastS S T P).2), (11, i64 (planE S T P)), (12, i64 (lastS S T P).2), (13, .ptr 8 0 0 0), (14, i64 (lastS S T P).1), (15, .sl 9 (leftR S T P).length)], [(9, .row 161 (leftR S T P).length 2 (p2C (leftR S T P))), (8, .blk 44 [i64 (planV S T P).1, i64 (planV S T P).2]), (7, .row 161 (leftR S T P).length 2 (p2C (leftR S T P))), (6, .blk 30 [i64 (planV S T P).1, i64 (planV S T P).2]), (0, pwC), (1, kdC)], 10⟩) ?_ ?_
                          · repeat first | refine lwp_seq fun K hK => ?_ | (with_reducible refine gA ?_; apply_assumption -exfalso -symm) | refine Stp.h ?_ | refine gF rfl ?_ | refine gG rfl ?_ | refine gM hC rfl sd ?_
                            refine lwp_condS hC rfl sd ?_ ?_ <;> intro hb
                            · have hKp := planB hb
                              have e2 : planV S T P = (valV S P P.length, valC S T P P.length) := if_pos hb
                              have e3 : leftR S T P = leftsL S T P T.length := if_pos hb
                              repeat first | refine lwp_seq fun K hK => ?_ | (with_reducible refine gA ?_; apply_assumption -exfalso -symm) | refine Stp.h ?_ | refine gF rfl ?_ | refine gG rfl ?_ | refine gM hC rfl sd ?_
                              (refine lwp_drawn hC (by rw [hP]; exact mixed) ⟨[], [], [(2, RVal_i S T P [(0, some 2), (1, some 3), (2, some 4)]), (5, RLeft_i S T P [(0, some 2), (1, some 3), (2, some 4)])]⟩ (told1 _ (by rw [hP]; exact (calls_cons (RVal_s _ _ _ _ hKp.B (by rw [hKp.l]; exact Nat.le_refl _) (fun k hk => (hKp.o k hk).2)) (calls_cons (RLeft_s _ _ _ _ hKp.B (by rw [hKp.l]; exact Nat.le_refl _)) calls_nil)))) [0, 0, 3, 0, 0, 31, 63, 127] 5 rfl ?_ ?_; rotate_left 1)
                              · repeat first | refine lwp_seq fun K hK => ?_ | (with_reducible refine gA ?_; apply_assumption -exfalso -symm) | refine Stp.h ?_ | refine gF rfl ?_ | refine gG rfl ?_ | refine gM hC rfl ⟨⟩ ?_
                                (refine lwp_region hC ⟨[], [], [(2, RLast_i S T P [(0, some 2), (1, some 3), (2, some 4)])]⟩ (told1 _ (by rw [hP]; exact (calls_cons (RLast_s _ _ _ _ hb) calls_nil))) rfl ?_ ?_; rotate_left 1)
                                · repeat first | refine lwp_seq fun K hK => ?_ | (with_reducible refine gA ?_; apply_assumption -exfalso -symm) | refine Stp.h ?_ | refine gF rfl ?_ | refine gG rfl ?_ | refine gM hC rfl sd ?_
                                  rw [e2, e3, leftsL_len]
                                  refine gA (sub_intro hm [(0, some 0), (1, some 1), (6, some 6), (7, some 7), (8, some 8), (9, some 10)] rfl ?_)
                                  exact sd
                                · exact sd
                              · exact sd
                            · have e2 : planV S T P = (0, 0) := if_neg hb
                              have e3 : leftR S T P = [] := if_neg hb
                              have e4 : lastS S T P = (0, planE S T P) := if_neg hb
                              repeat first | refine lwp_seq fun K hK => ?_ | (with_reducible refine gA ?_; apply_assumption -exfalso -symm) | refine Stp.h ?_ | refine gF rfl ?_ | refine gG rfl ?_ | refine gM hC rfl sd ?_
                              rw [e2, e3, e4]
                              refine gA (sub_intro hm [(0, some 0), (1, some 1), (6, some 6), (7, some 7), (8, some 8), (9, none)] rfl ?_)
                              exact sd
                          · have hL : (leftR S T P).length ≤ 1000000 := by
                              unfold leftR; split
                              · rw [leftsL_len]; omega
                              · simp
                            repeat first | refine lwp_seq fun K hK => ?_ | (with_reducible refine gA ?_; apply_assumption -exfalso -symm) | refine Stp.h ?_ | refine gF rfl ?_ | refine gG rfl ?_ | refine gM hC rfl ⟨⟩ ?_
                            (refine lwp_region hC ⟨[(3, { b := some true }), (8, { b := some true }), (13, { b := some true }), (18, { b := some true }), (23, { b := some true }), (28, { b := some true })], [(2, custTold)], [(11, Same_i (leftR S T P) [(0, some 7), (1, some 9)]), (29, Awake_i)]⟩ ⟨(fun p hp => by rcases List.mem_cons.1 hp with rfl | hp; rw [hP]; exact custTold_ok; cases hp), (by rw [hP]; exact (calls_cons (Same_s _ _ hL) (calls_cons (Awake_s) calls_nil)))⟩ rfl ?_ ?_; rotate_left 1)
                            · repeat first | refine lwp_seq fun K hK => ?_ | (with_reducible refine gA ?_; apply_assumption -exfalso -symm) | refine Stp.h ?_ | refine gF rfl ?_ | refine gG rfl ?_ | refine gM hC rfl sd ?_
                              (refine end_intro (by first | exact .inr rfl | exact .inl rfl) [] rfl ?_)
                              exact ⟨rfl, trivial⟩
                            · simp [AllL, All]
                        · exact sd
                      · exact sd
                    · exact sd
                · exact sd
              · exact sd
            · exact sd
          · exact sd
      · simp [AllL, All, *]
  · (refine lwp_region hC ⟨[(3, { b := some true }), (4, { g := some false }), (5, { g := some false }), (6, { g := some false })], [], [(1, ShortO_i S T [(0, some 2), (1, some 3)])]⟩ (told1 _ (by rw [hP]; exact (calls_cons (ShortO_s _ _ _ hS hT) calls_nil))) rfl ?_ ?_; rotate_left 1)
    · repeat first | refine lwp_seq fun K hK => ?_ | (with_reducible refine gA ?_; apply_assumption -exfalso -symm) | refine Stp.h ?_ | refine gF rfl ?_ | refine gG rfl ?_ | refine gM hC rfl ⟨⟩ ?_
      refine lwp_condS hC rfl sd ?_ ?_ <;> intro hb
      · repeat first | refine lwp_seq fun K hK => ?_ | (with_reducible refine gA ?_; apply_assumption -exfalso -symm) | refine Stp.h ?_ | refine gF rfl ?_ | refine gG rfl ?_ | refine gM hC rfl ⟨⟩ ?_
        (refine lwp_region hC ⟨[], [], [(0, Awake_i)]⟩ (told1 _ (by rw [hP]; exact (calls_cons (Awake_s) calls_nil))) rfl ?_ ?_; rotate_left 1)
        · repeat first | refine lwp_seq fun K hK => ?_ | (with_reducible refine gA ?_; apply_assumption -exfalso -symm) | refine Stp.h ?_ | refine gF rfl ?_ | refine gG rfl ?_ | refine gM hC rfl sd ?_
          (refine end_intro (by first | exact .inr rfl | exact .inl rfl) [] rfl ?_)
          exact ⟨rfl, trivial⟩
        · exact sd
      · exact absurd hb (by decide)
    · simp [AllL, All, *]

end Go.Proofs.YtccddhoeampdjaaGreatDoor
