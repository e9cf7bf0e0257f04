/- Chapter 5: the form of a table, the program's. -/
import Derived.Test.YtfmnfagcbehmdaaGreatDoorKc
import Derived.Test.YtfmnfagcbehmdaaGreatDoorA5
set_option linter.unusedVariables false
set_option linter.unusedSimpArgs false
namespace Go.Proofs.YtfmnfagcbehmdaaGreatDoor
open Go.RowKit Go.Sym

/-- A table that is only read. -/
abbrev roT (j n : Nat) (R : Nat → List Int) : Chunk := .ro n 1 (.tbl j n (fun q => (R q).length) none)
abbrev roF (n : Nat) (R : Nat → List Int) : Chunk := .fam false 3 1 n (fun q => (R q).length) (fun q => .ints .i64 (R q))
/-- The first place where a test holds, or -1. -/
def firstF (p : Nat → Bool) : Nat → Int
  | 0 => -1
  | n + 1 => if firstF p n ≥ 0 then firstF p n else if p n then n else -1
theorem firstF_none {p : Nat → Bool} : ∀ {n : Nat}, (∀ i, i < n → p i = false) → firstF p n = -1
  | 0, _ => rfl
  | n + 1, h => by
    unfold firstF
    rw [firstF_none (fun i hi => h i (by omega)), if_neg (by decide), h n (by omega)]
    rfl
theorem firstF_at {p : Nat → Bool} {k : Nat} (h : ∀ i, i < k → p i = false) (hk : p k = true) : ∀ {n : Nat}, k < n → firstF p n = k
  | 0, h0 => absurd h0 (Nat.not_lt_zero _)
  | n + 1, h0 => by
    unfold firstF
    by_cases e : k = n
    · subst e
      rw [firstF_none h, if_neg (by decide), if_pos hk]
    · rw [firstF_at h hk (show k < n by omega), if_pos (by omega)]
theorem firstF_any {p : Nat → Bool} {n : Nat} : decide (firstF p n ≥ 0) = true ↔ ∃ i, i < n ∧ p i = true := by
  constructor
  · intro h
    by_cases h2 : ∃ i, i < n ∧ p i = true
    · exact h2
    · rw [firstF_none (fun i hi => by cases e : p i with | false => rfl | true => exact absurd ⟨i, hi, e⟩ h2)] at h
      simp at h
  · rintro ⟨i, hi, hp⟩
    induction n with
    | zero => omega
    | succ n ih =>
      unfold firstF
      by_cases h3 : firstF p n ≥ 0
      · rw [if_pos h3]; simpa using h3
      · rw [if_neg h3]
        by_cases e : i = n
        · subst e; rw [if_pos hp]; simp
        · exact absurd (by simpa using ih (by omega)) h3

def boxR (m s : List Th) : List (Nat × Chunk) := [(0, .ro m.length 2 (thC m)), (1, .ro s.length 2 (thC s)), (2, .rb 38 [.sl 0 m.length, .sl 1 s.length])]
def shortB (k : Nat) (R : Nat → List Int) (e : Nat) : Bool := decide (((R e).length : Int) ≠ k)
def SC_i (m s : List Th) (n : Nat) (R : Nat → List Int) (e : Nat) (σ : Ren) : Inst := { f := 133, hin := boxR m s ++ [(3, roF n R)], args := [.tb 3 (.row e (R e).length), .ptr 2 0 0 0], hout := [], ret := bl (shortB m.length R e), σ := σ }
theorem SC_s (m s : List Th) (n : Nat) (R : Nat → List Int) (e : Nat) (σ : Ren) : (SC_i m s n R e σ).ok Tryz.prog := by
  unfold SC_i Inst.ok; dsimp only; refine spec_of_body (tys := tys) 4 Tryz.func133 (by kernel_rfl) rfl tys_ok rfl (Nat.le_of_ble_eq_true rfl) (fun _ _ h => (by cases h)) fun F hP hm hC hrd => ?_; conv => whnf
  repeat first | refine lwp_seq fun K hK => ?_ | (with_reducible refine gA ?_; apply_assumption -exfalso -symm) | refine Stp.h ?_ | refine gF rfl ?_ | refine gG rfl ?_ | refine gM hC rfl sd ?_
  (refine end_intro (by first | exact .inr rfl | exact .inl rfl) [(0, some 0), (1, some 1), (2, some 2), (3, some 3)] rfl ?_)
  exact sd
def IxT_i (m s : List Th) (n : Nat) (R : Nat → List Int) (σ : Ren) : Inst := { f := 168, hin := boxR m s ++ [(3, roF n R), (4, roT 3 n R)], args := [.sl 4 n, .fn 133 [] [.ptr 2 0 0 0]], hout := [], ret := i64 (firstF (shortB m.length R) n), σ := σ }
theorem IxT_s (m s : List Th) (n : Nat) (R : Nat → List Int) (σ : Ren) (hn : n ≤ 1000000) : (IxT_i m s n R σ).ok Tryz.prog := by
  unfold IxT_i Inst.ok; dsimp only; refine spec_of_body (tys := tys) 5 Tryz.func168 (by kernel_rfl) rfl tys_ok rfl (Nat.le_of_ble_eq_true rfl) (fun _ _ h => (by cases h)) fun F hP hm hC hrd => ?_; conv => whnf
  repeat first | refine lwp_seq fun K hK => ?_ | (with_reducible refine gA ?_; apply_assumption -exfalso -symm) | refine Stp.h ?_ | refine gF rfl ?_ | refine gG rfl ?_ | refine gM hC rfl sd ?_
  refine lwp_loop (fun k : Nat => ⟨[(8, i64 k), (7, i64 n), (0, .sl 4 n), (1, .fn 133 [] [.ptr 2 0 0 0])], [(0, .ro m.length 2 (thC m)), (1, .ro s.length 2 (thC s)), (2, .rb 38 [.sl 0 m.length, .sl 1 s.length]), (3, roF n R), (4, roT 3 n R)], 5⟩) (fun k => k ≤ n ∧ ∀ i, i < k → shortB m.length R i = false) (fun k => n - k) 0 ⟨?_, sub_intro hm [(0, some 0), (1, some 1), (2, some 2), (3, some 3), (4, some 4)] rfl ?_⟩ ?_
  · exact ⟨Nat.zero_le _, fun i hi => absurd hi (Nat.not_lt_zero _)⟩
  · exact sd
  · rintro k ⟨hk, hki⟩
    have e1 : (k : Int).toNat = k := Int.toNat_natCast k
    repeat first | refine lwp_seq fun K hK => ?_ | (with_reducible refine gA ?_; apply_assumption -exfalso -symm) | refine Stp.h ?_ | refine gF rfl ?_ | refine gG rfl ?_ | refine gM hC rfl sd ?_
    refine lwp_condS hC rfl sd ?_ ?_ <;> intro hb
    · have hkn : k < n := by omega
      repeat first | refine lwp_seq fun K hK => ?_ | (with_reducible refine gA ?_; apply_assumption -exfalso -symm) | refine Stp.h ?_ | refine gF rfl ?_ | refine gG rfl ?_ | refine gM hC rfl ⟨⟩ ?_
      (refine lwp_region hC ⟨[], [], [(5, SC_i m s n R k [(0, some 0), (1, some 1), (2, some 2), (3, some 3)])]⟩ (told1 _ (by rw [hP]; exact (calls_cons (SC_s _ _ _ _ _ _) calls_nil))) rfl ?_ ?_; rotate_left 1)
      · repeat first | refine lwp_seq fun K hK => ?_ | (with_reducible refine gA ?_; apply_assumption -exfalso -symm) | refine Stp.h ?_ | refine gF rfl ?_ | refine gG rfl ?_ | refine gM hC rfl sd ?_
        refine lwp_condS hC rfl sd ?_ ?_ <;> intro hb
        · have hf := firstF_at hki (show shortB m.length R k = true from hb) hkn
          repeat first | refine lwp_seq fun K hK => ?_ | (with_reducible refine gA ?_; apply_assumption -exfalso -symm) | refine Stp.h ?_ | refine gF rfl ?_ | refine gG rfl ?_ | refine gM hC rfl sd ?_
          (refine end_intro (by first | exact .inr rfl | exact .inl rfl) [(0, some 0), (1, some 1), (2, some 2), (3, some 3), (4, some 4)] rfl ?_)
          rw [hf]
          exact sd
        · have hb' : shortB m.length R k = false := hb
          repeat first | refine lwp_seq fun K hK => ?_ | (with_reducible refine gA ?_; apply_assumption -exfalso -symm) | refine Stp.h ?_ | refine gF rfl ?_ | refine gG rfl ?_ | refine gM hC rfl sd ?_
          refine gA ⟨k + 1, ?_, ?_, sub_intro hm [(0, some 0), (1, some 1), (2, some 2), (3, some 3), (4, some 4)] rfl ?_⟩
          · exact ⟨by omega, fun i hi => by rcases Nat.lt_succ_iff_lt_or_eq.1 hi with h | rfl; exact hki i h; exact hb'⟩
          · omega
          · exact sd
      · simp only [e1]
        exact sd
    · obtain rfl : k = n := by omega
      have hf := firstF_none hki
      repeat first | refine lwp_seq fun K hK => ?_ | (with_reducible refine gA ?_; apply_assumption -exfalso -symm) | refine Stp.h ?_ | refine gF rfl ?_ | refine gG rfl ?_ | refine gM hC rfl sd ?_
      (refine end_intro (by first | exact .inr rfl | exact .inl rfl) [(0, some 0), (1, some 1), (2, some 2), (3, some 3), (4, some 4)] rfl ?_)
      rw [hf]
      exact sd
def ContT_i (m s : List Th) (n : Nat) (R : Nat → List Int) (σ : Ren) : Inst := { f := 132, hin := boxR m s ++ [(3, roF n R), (4, roT 3 n R)], args := [.sl 4 n, .fn 133 [] [.ptr 2 0 0 0]], hout := [], ret := bl (decide (firstF (shortB m.length R) n ≥ 0)), σ := σ }
theorem ContT_s (m s : List Th) (n : Nat) (R : Nat → List Int) (σ : Ren) (hn : n ≤ 1000000) : (ContT_i m s n R σ).ok Tryz.prog := by
  unfold ContT_i Inst.ok; dsimp only; refine spec_of_body (tys := tys) 5 Tryz.func132 (by kernel_rfl) rfl tys_ok rfl (Nat.le_of_ble_eq_true rfl) (fun _ _ h => (by cases h)) fun F hP hm hC hrd => ?_; conv => whnf
  repeat first | refine lwp_seq fun K hK => ?_ | (with_reducible refine gA ?_; apply_assumption -exfalso -symm) | refine Stp.h ?_ | refine gF rfl ?_ | refine gG rfl ?_ | refine gM hC rfl ⟨⟩ ?_
  (refine lwp_region hC ⟨[], [], [(2, IxT_i m s n R [(0, some 0), (1, some 1), (2, some 2), (3, some 3), (4, some 4)])]⟩ (told1 _ (by rw [hP]; exact (calls_cons (IxT_s _ _ _ _ _ hn) calls_nil))) rfl ?_ ?_; rotate_left 1)
  · repeat first | refine lwp_seq fun K hK => ?_ | (with_reducible refine gA ?_; apply_assumption -exfalso -symm) | refine Stp.h ?_ | refine gF rfl ?_ | refine gG rfl ?_ | refine gM hC rfl sd ?_
    (refine end_intro (by first | exact .inr rfl | exact .inl rfl) [(0, some 0), (1, some 1), (2, some 2), (3, some 3), (4, some 4)] rfl ?_)
    exact sd
  · exact sd

def outB (x : Int) : Bool := bif decide (x < -1) then true else decide (x > 999999999)
def NB_i (x : Int) : Inst := { f := 136, hin := [], args := [i64 x], hout := [], ret := bl (outB x), σ := [] }
theorem NB_s (x : Int) : (NB_i x).ok Tryz.prog := by
  unfold NB_i Inst.ok; dsimp only; refine spec_of_body (tys := tys) 0 Tryz.func136 (by kernel_rfl) rfl tys_ok rfl (Nat.le_of_ble_eq_true rfl) (fun _ _ h => (by cases h)) fun F hP hm hC hrd => ?_; conv => whnf
  repeat first | refine lwp_seq fun K hK => ?_ | (with_reducible refine gA ?_; apply_assumption -exfalso -symm) | refine Stp.h ?_ | refine gF rfl ?_ | refine gG rfl ?_ | refine gM hC rfl sd ?_
  (refine end_intro (by first | exact .inr rfl | exact .inl rfl) [] rfl ?_)
  exact sd
def IxN_i (l : List Int) (σ : Ren) : Inst := { f := 169, hin := [(0, .ro l.length 1 (.ints .i64 l))], args := [.sl 0 l.length, .fn 136 [] []], hout := [], ret := i64 (firstF (fun i => outB (l.getD i 0)) l.length), σ := σ }
theorem IxN_s (l : List Int) (σ : Ren) (hn : l.length ≤ 1000000) : (IxN_i l σ).ok Tryz.prog := by
  unfold IxN_i Inst.ok; dsimp only; refine spec_of_body (tys := tys) 1 Tryz.func169 (by kernel_rfl) rfl tys_ok rfl (Nat.le_of_ble_eq_true rfl) (fun _ _ h => (by cases h)) fun F hP hm hC hrd => ?_; conv => whnf
  repeat first | refine lwp_seq fun K hK => ?_ | (with_reducible refine gA ?_; apply_assumption -exfalso -symm) | refine Stp.h ?_ | refine gF rfl ?_ | refine gG rfl ?_ | refine gM hC rfl sd ?_
  refine lwp_loop (fun k : Nat => ⟨[(8, i64 k), (7, i64 l.length), (0, .sl 0 l.length), (1, .fn 136 [] [])], [(0, .ro l.length 1 (.ints .i64 l))], 1⟩) (fun k => k ≤ l.length ∧ ∀ i, i < k → (fun i => outB (l.getD i 0)) i = false) (fun k => l.length - k) 0 ⟨?_, sub_intro hm [(0, some 0)] rfl ?_⟩ ?_
  · exact ⟨Nat.zero_le _, fun i hi => absurd hi (Nat.not_lt_zero _)⟩
  · exact sd
  · rintro k ⟨hk, hki⟩
    have e1 : (k : Int).toNat = k := Int.toNat_natCast k
    repeat first | refine lwp_seq fun K hK => ?_ | (with_reducible refine gA ?_; apply_assumption -exfalso -symm) | refine Stp.h ?_ | refine gF rfl ?_ | refine gG rfl ?_ | refine gM hC rfl sd ?_
    refine lwp_condS hC rfl sd ?_ ?_ <;> intro hb
    · have hkn : k < l.length := by omega
      repeat first | refine lwp_seq fun K hK => ?_ | (with_reducible refine gA ?_; apply_assumption -exfalso -symm) | refine Stp.h ?_ | refine gF rfl ?_ | refine gG rfl ?_ | refine gM hC rfl ⟨⟩ ?_
      (refine lwp_region hC ⟨[], [], [(5, NB_i (l.getD k 0))]⟩ (told1 _ (by rw [hP]; exact (calls_cons (NB_s _) calls_nil))) rfl ?_ ?_; rotate_left 1)
      · repeat first | refine lwp_seq fun K hK => ?_ | (with_reducible refine gA ?_; apply_assumption -exfalso -symm) | refine Stp.h ?_ | refine gF rfl ?_ | refine gG rfl ?_ | refine gM hC rfl sd ?_
        refine lwp_condS hC rfl sd ?_ ?_ <;> intro hb
        · have hf := firstF_at hki (show (fun i => outB (l.getD i 0)) k = true from hb) hkn
          repeat first | refine lwp_seq fun K hK => ?_ | (with_reducible refine gA ?_; apply_assumption -exfalso -symm) | refine Stp.h ?_ | refine gF rfl ?_ | refine gG rfl ?_ | refine gM hC rfl sd ?_
          (refine end_intro (by first | exact .inr rfl | exact .inl rfl) [(0, some 0)] rfl ?_)
          rw [hf]
          exact sd
        · have hb' : outB (l.getD k 0) = false := hb
          repeat first | refine lwp_seq fun K hK => ?_ | (with_reducible refine gA ?_; apply_assumption -exfalso -symm) | refine Stp.h ?_ | refine gF rfl ?_ | refine gG rfl ?_ | refine gM hC rfl sd ?_
          refine gA ⟨k + 1, ?_, ?_, sub_intro hm [(0, some 0)] rfl ?_⟩
          · exact ⟨by omega, fun i hi => by rcases Nat.lt_succ_iff_lt_or_eq.1 hi with h | rfl; exact hki i h; exact hb'⟩
          · omega
          · exact sd
      · simp only [e1]
        exact sd
    · obtain rfl : k = l.length := by omega
      have hf := firstF_none hki
      repeat first | refine lwp_seq fun K hK => ?_ | (with_reducible refine gA ?_; apply_assumption -exfalso -symm) | refine Stp.h ?_ | refine gF rfl ?_ | refine gG rfl ?_ | refine gM hC rfl sd ?_
      (refine end_intro (by first | exact .inr rfl | exact .inl rfl) [(0, some 0)] rfl ?_)
      rw [hf]
      exact sd
def ContN_i (l : List Int) (σ : Ren) : Inst := { f := 134, hin := [(0, .ro l.length 1 (.ints .i64 l))], args := [.sl 0 l.length, .fn 136 [] []], hout := [], ret := bl (decide (firstF (fun i => outB (l.getD i 0)) l.length ≥ 0)), σ := σ }
theorem ContN_s (l : List Int) (σ : Ren) (hn : l.length ≤ 1000000) : (ContN_i l σ).ok Tryz.prog := by
  unfold ContN_i Inst.ok; dsimp only; refine spec_of_body (tys := tys) 1 Tryz.func134 (by kernel_rfl) rfl tys_ok rfl (Nat.le_of_ble_eq_true rfl) (fun _ _ h => (by cases h)) fun F hP hm hC hrd => ?_; conv => whnf
  repeat first | refine lwp_seq fun K hK => ?_ | (with_reducible refine gA ?_; apply_assumption -exfalso -symm) | refine Stp.h ?_ | refine gF rfl ?_ | refine gG rfl ?_ | refine gM hC rfl ⟨⟩ ?_
  (refine lwp_region hC ⟨[], [], [(2, IxN_i l [(0, some 0)])]⟩ (told1 _ (by rw [hP]; exact (calls_cons (IxN_s _ _ hn) calls_nil))) rfl ?_ ?_; rotate_left 1)
  · repeat first | refine lwp_seq fun K hK => ?_ | (with_reducible refine gA ?_; apply_assumption -exfalso -symm) | refine Stp.h ?_ | refine gF rfl ?_ | refine gG rfl ?_ | refine gM hC rfl sd ?_
    (refine end_intro (by first | exact .inr rfl | exact .inl rfl) [(0, some 0)] rfl ?_)
    exact sd
  · exact sd

def NGrow0_i : Inst := { f := 170, hin := [], args := [.lit (.slice none 0 0), i64 0], hout := [], ret := .lit (.slice none 0 0), σ := [] }
theorem NGrow0_s : NGrow0_i.ok Tryz.prog := chkI_ok stat5_ok (n := 300) (by kernel_rfl)
def NGrow_i (n : Nat) : Inst := { f := 170, hin := [], args := [.lit (.slice none 0 0), i64 n], hout := [(1, .row 3 0 1 (.exp []))], ret := .sl 1 0, σ := [] }
theorem ngrow_all : ((List.range 200).all fun i => chkI stat5 300 (NGrow_i (i + 1))) = true := by kernel_rfl
theorem NGrow_s (n : Nat) (h1 : 1 ≤ n) (h2 : n ≤ 200) : (NGrow_i n).ok Tryz.prog := by
  have := List.all_eq_true.1 ngrow_all (n - 1) (List.mem_range.2 (by omega))
  rw [show n - 1 + 1 = n by omega] at this
  exact chkI_ok stat5_ok this
/-- The rows of a table, one behind the other. -/
def catL (R : Nat → List Int) : Nat → List Int
  | 0 => []
  | k + 1 => catL R k ++ R k
theorem catL_le (R : Nat → List Int) {k n : Nat} (h : k ≤ n) : (catL R k).length ≤ (catL R n).length := by
  induction n with
  | zero => obtain rfl : k = 0 := by omega
            exact Nat.le_refl _
  | succ n ih =>
    by_cases e : k = n + 1
    · subst e; exact Nat.le_refl _
    · have := ih (by omega)
      simp only [catL, List.length_append]
      omega
def Cat_i (n : Nat) (R : Nat → List Int) (σ : Ren) : Inst := { f := 135, hin := [(0, roF n R), (1, roT 0 n R)], args := [.sl 1 n], hout := [(2, .row 3 (catL R n).length 1 (.ints .i64 (catL R n)))], ret := .sl 2 (catL R n).length, σ := σ }
set_option maxRecDepth 20000 in
theorem Cat_s (n : Nat) (R : Nat → List Int) (σ : Ren) (hn : n ≤ 1000000) (hr : (catL R n).length ≤ 200) : (Cat_i n R σ).ok Tryz.prog := by
  have hle : ∀ k, k ≤ n → (catL R k).length ≤ 200 := fun k hk => Nat.le_trans (catL_le R hk) hr
  have hst : ∀ k, (catL R (k + 1)).length = (catL R k).length + (R k).length := fun k => by simp [catL]
  have hcc : ∀ k, catL R (k + 1) = catL R k ++ R k := fun k => rfl
  unfold Cat_i Inst.ok; dsimp only; refine spec_of_body (tys := tys) 2 Tryz.func135 (by kernel_rfl) rfl tys_ok rfl (Nat.le_of_ble_eq_true rfl) (fun _ _ h => (by cases h)) fun F hP hm hC hrd => ?_; conv => whnf
  repeat first | refine lwp_seq fun K hK => ?_ | (with_reducible refine gA ?_; apply_assumption -exfalso -symm) | refine Stp.h ?_ | refine gF rfl ?_ | refine gG rfl ?_ | refine gM hC rfl sd ?_
  refine lwp_loop (fun k : Nat => ⟨[(11, i64 k), (10, i64 n), (9, .sl 1 n), (0, .sl 1 n), (3, i64 (catL R k).length)], [(0, roF n R), (1, roT 0 n R)], 2⟩) (fun k => k ≤ n) (fun k => n - k) 0 ⟨?_, sub_intro hm [(0, some 0), (1, some 1)] rfl ?_⟩ ?_
  · exact Nat.zero_le _
  · rw [show catL R 0 = [] from rfl]
    exact sd
  · rintro k hk
    have e1 : (k : Int).toNat = k := Int.toNat_natCast k
    have hlk := hle k hk
    repeat first | refine lwp_seq fun K hK => ?_ | (with_reducible refine gA ?_; apply_assumption -exfalso -symm) | refine Stp.h ?_ | refine gF rfl ?_ | refine gG rfl ?_ | refine gM hC rfl sd ?_
    refine lwp_condS hC rfl sd ?_ ?_ <;> intro hb
    · have hkn : k < n := by omega
      have hlk2 := hle (k + 1) (by omega)
      have hs1 := hst k
      repeat first | refine lwp_seq fun K hK => ?_ | (with_reducible refine gA ?_; apply_assumption -exfalso -symm) | refine Stp.h ?_ | refine gF rfl ?_ | refine gG rfl ?_ | refine gM hC rfl sd ?_
      simp only [e1]
      repeat first | refine lwp_seq fun K hK => ?_ | (with_reducible refine gA ?_; apply_assumption -exfalso -symm) | refine Stp.h ?_ | refine gF rfl ?_ | refine gG rfl ?_ | refine gM hC rfl sd ?_
      refine lwp_condS hC rfl sd ?_ ?_ <;> intro hb
      · exact absurd hb (by omega)
      · repeat first | refine lwp_seq fun K hK => ?_ | (with_reducible refine gA ?_; apply_assumption -exfalso -symm) | refine Stp.h ?_ | refine gF rfl ?_ | refine gG rfl ?_ | refine gM hC rfl sd ?_
        refine gA ⟨k + 1, ?_, ?_, sub_intro hm [(0, some 0), (1, some 1)] rfl ?_⟩
        · omega
        · omega
        · rw [hst]
          exact sd
    · obtain rfl : k = n := by omega
      repeat first | refine lwp_seq fun K hK => ?_ | (with_reducible refine gA ?_; apply_assumption -exfalso -symm) | refine Stp.h ?_ | refine gF rfl ?_ | refine gG rfl ?_ | refine gM hC rfl sd ?_
      by_cases h0 : (catL R k).length = 0
      · (refine lwp_region hC ⟨[], [], [(1, NGrow0_i)]⟩ (told1 _ (by rw [hP]; exact (calls_cons (NGrow0_s) calls_nil))) rfl ?_ ?_; rotate_left 1)
        · repeat first | refine lwp_seq fun K hK => ?_ | (with_reducible refine gA ?_; apply_assumption -exfalso -symm) | refine Stp.h ?_ | refine gF rfl ?_ | refine gG rfl ?_ | refine gM hC rfl sd ?_
          refine lwp_loop (fun j : Nat => ⟨[(27, i64 j), (26, i64 k), (25, .sl 1 k), (0, .sl 1 k), (6, .sl 2 (catL R j).length)], [(2, .row 3 (catL R j).length 1 (.ints .i64 (catL R j))), (0, roF k R), (1, roT 0 k R)], 3⟩) (fun j => j ≤ k) (fun j => k - j) 0 ⟨?_, sub_intro hm [(0, some 0), (1, some 1), (2, none)] rfl ?_⟩ ?_
          · exact Nat.zero_le _
          · rw [show catL R 0 = [] from rfl]
            exact sd
          · rintro j hj
            have e2 : (j : Int).toNat = j := Int.toNat_natCast j
            have hlj := hle j hj
            repeat first | refine lwp_seq fun K hK => ?_ | (with_reducible refine gA ?_; apply_assumption -exfalso -symm) | refine Stp.h ?_ | refine gF rfl ?_ | refine gG rfl ?_ | refine gM hC rfl sd ?_
            refine lwp_condS hC rfl sd ?_ ?_ <;> intro hb
            · have hjk : j < k := by omega
              have hlj2 := hle (j + 1) (by omega)
              have hs2 := hst j
              repeat first | refine lwp_seq fun K hK => ?_ | (with_reducible refine gA ?_; apply_assumption -exfalso -symm) | refine Stp.h ?_ | refine gF rfl ?_ | refine gG rfl ?_ | refine gM hC rfl sd ?_
              simp only [e2]
              refine gA ⟨j + 1, ?_, ?_, sub_intro hm [(0, some 0), (1, some 1), (2, some 3)] rfl ?_⟩
              · omega
              · omega
              · rw [hst, hcc]
                exact sd
            · obtain rfl : j = k := by omega
              repeat first | refine lwp_seq fun K hK => ?_ | (with_reducible refine gA ?_; apply_assumption -exfalso -symm) | refine Stp.h ?_ | refine gF rfl ?_ | refine gG rfl ?_ | refine gM hC rfl sd ?_
              (refine end_intro (by first | exact .inr rfl | exact .inl rfl) [(0, some 0), (1, some 1), (2, some 2)] rfl ?_)
              exact sd
        · exact sd
      · (refine lwp_region hC ⟨[], [], [(1, NGrow_i (catL R k).length)]⟩ (told1 _ (by rw [hP]; exact (calls_cons (NGrow_s _ (by omega) (by omega)) calls_nil))) rfl ?_ ?_; rotate_left 1)
        · repeat first | refine lwp_seq fun K hK => ?_ | (with_reducible refine gA ?_; apply_assumption -exfalso -symm) | refine Stp.h ?_ | refine gF rfl ?_ | refine gG rfl ?_ | refine gM hC rfl sd ?_
          refine lwp_loop (fun j : Nat => ⟨[(27, i64 j), (26, i64 k), (25, .sl 1 k), (0, .sl 1 k), (6, .sl 2 (catL R j).length)], [(2, .row 3 (catL R j).length 1 (.ints .i64 (catL R j))), (0, roF k R), (1, roT 0 k R)], 3⟩) (fun j => j ≤ k) (fun j => k - j) 0 ⟨?_, sub_intro hm [(0, some 0), (1, some 1), (2, some 2)] rfl ?_⟩ ?_
          · exact Nat.zero_le _
          · rw [show catL R 0 = [] from rfl]
            exact sd
          · rintro j hj
            have e2 : (j : Int).toNat = j := Int.toNat_natCast j
            have hlj := hle j hj
            repeat first | refine lwp_seq fun K hK => ?_ | (with_reducible refine gA ?_; apply_assumption -exfalso -symm) | refine Stp.h ?_ | refine gF rfl ?_ | refine gG rfl ?_ | refine gM hC rfl sd ?_
            refine lwp_condS hC rfl sd ?_ ?_ <;> intro hb
            · have hjk : j < k := by omega
              have hlj2 := hle (j + 1) (by omega)
              have hs2 := hst j
              repeat first | refine lwp_seq fun K hK => ?_ | (with_reducible refine gA ?_; apply_assumption -exfalso -symm) | refine Stp.h ?_ | refine gF rfl ?_ | refine gG rfl ?_ | refine gM hC rfl sd ?_
              simp only [e2]
              refine gA ⟨j + 1, ?_, ?_, sub_intro hm [(0, some 0), (1, some 1), (2, some 3)] rfl ?_⟩
              · omega
              · omega
              · rw [hst, hcc]
                exact sd
            · obtain rfl : j = k := by omega
              repeat first | refine lwp_seq fun K hK => ?_ | (with_reducible refine gA ?_; apply_assumption -exfalso -symm) | refine Stp.h ?_ | refine gF rfl ?_ | refine gG rfl ?_ | refine gM hC rfl sd ?_
              (refine end_intro (by first | exact .inr rfl | exact .inl rfl) [(0, some 0), (1, some 1), (2, some 2)] rfl ?_)
              exact sd
        · exact sd

/-- The error of a table's form. -/
def ctS (m s : List Th) (n : Nat) (R : Nat → List Int) : Int :=
  if (bif decide (firstF (shortB m.length R) n ≥ 0) then true else decide ((n : Int) ≠ s.length)) = true then 2 else whenS (decide (firstF (fun i => outB ((catL R n).getD i 0)) (catL R n).length ≥ 0)) 3
def tabIn (m s : List Th) (n : Nat) (R : Nat → List Int) : List (Nat × Chunk) := rideIn m s ++ [(2, roF n R), (3, roT 2 n R)]
def CT_i (m s : List Th) (n : Nat) (R : Nat → List Int) (σ : Ren) : Inst := { f := 79, hin := tabIn m s n R, args := [rdA m s, .sl 3 n], hout := [], ret := i64 (ctS m s n R), σ := σ }
set_option maxRecDepth 20000 in
theorem CT_s (m s : List Th) (n : Nat) (R : Nat → List Int) (σ : Ren) (hn : n ≤ 1000000) (hs' : s.length ≤ 1000000) (hr : ctS m s n R ≠ 2 → (catL R n).length ≤ 200) : (CT_i m s n R σ).ok Tryz.prog := by
  unfold CT_i Inst.ok; dsimp only; refine spec_of_body (tys := tys) 4 Tryz.func79 (by kernel_rfl) rfl tys_ok rfl (Nat.le_of_ble_eq_true rfl) (fun _ _ h => (by cases h)) fun F hP hm hC hrd => ?_; conv => whnf
  repeat first | refine lwp_seq fun K hK => ?_ | (with_reducible refine gA ?_; apply_assumption -exfalso -symm) | refine Stp.h ?_ | refine gF rfl ?_ | refine gG rfl ?_ | refine gM hC rfl ⟨⟩ ?_
  (refine lwp_region hC ⟨[], [], [(2, ContT_i m s n R [(0, some 0), (1, some 1), (2, some 4), (3, some 2), (4, some 3)])]⟩ (told1 _ (by rw [hP]; exact (calls_cons (ContT_s _ _ _ _ _ hn) calls_nil))) rfl ?_ ?_; rotate_left 1)
  · repeat first | refine lwp_seq fun K hK => ?_ | (with_reducible refine gA ?_; apply_assumption -exfalso -symm) | refine Stp.h ?_ | refine gF rfl ?_ | refine gG rfl ?_
    cases hA : decide (firstF (shortB m.length R) n ≥ 0) with
    | true =>
      have hct : ctS m s n R = 2 := by unfold ctS; rw [hA]; rfl
      (refine lwp_region hC ⟨[(1, { b := some true }), (2, { g := some false }), (3, { g := some false }), (4, { g := some false }), (5, { g := some false }), (6, { g := some false }), (7, { g := some false })], [], []⟩ (told0 _ _) rfl ?_ ?_; rotate_left 1)
      · repeat first | refine lwp_seq fun K hK => ?_ | (with_reducible refine gA ?_; apply_assumption -exfalso -symm) | refine Stp.h ?_ | refine gF rfl ?_ | refine gG rfl ?_ | refine gM hC rfl sd ?_
        refine lwp_condS hC rfl sd ?_ ?_ <;> intro hb
        · repeat first | refine lwp_seq fun K hK => ?_ | (with_reducible refine gA ?_; apply_assumption -exfalso -symm) | refine Stp.h ?_ | refine gF rfl ?_ | refine gG rfl ?_ | refine gM hC rfl sd ?_
          (refine end_intro (by first | exact .inr rfl | exact .inl rfl) [(0, some 0), (1, some 1), (2, some 2), (3, some 3)] rfl ?_)
          rw [hct]
          exact sd
        · simp at hb
      · exact sd
    | false =>
      (refine lwp_region hC ⟨[(1, { b := some false })], [], []⟩ (told0 _ _) rfl ?_ ?_; rotate_left 1)
      · repeat first | refine lwp_seq fun K hK => ?_ | (with_reducible refine gA ?_; apply_assumption -exfalso -symm) | refine Stp.h ?_ | refine gF rfl ?_ | refine gG rfl ?_ | refine gM hC rfl sd ?_
        refine lwp_condS hC rfl sd ?_ ?_ <;> intro hb
        · have hct : ctS m s n R = 2 := by unfold ctS; rw [hA, if_pos (show (bif false then true else decide ((n : Int) ≠ s.length)) = true from hb)]
          repeat first | refine lwp_seq fun K hK => ?_ | (with_reducible refine gA ?_; apply_assumption -exfalso -symm) | refine Stp.h ?_ | refine gF rfl ?_ | refine gG rfl ?_ | refine gM hC rfl sd ?_
          (refine end_intro (by first | exact .inr rfl | exact .inl rfl) [(0, some 0), (1, some 1), (2, some 2), (3, some 3)] rfl ?_)
          rw [hct]
          exact sd
        · have hct : ctS m s n R = whenS (decide (firstF (fun i => outB ((catL R n).getD i 0)) (catL R n).length ≥ 0)) 3 := by
            unfold ctS
            rw [hA, if_neg (show ¬ (bif false then true else decide ((n : Int) ≠ s.length)) = true by rw [show (bif false then true else decide ((n : Int) ≠ s.length)) = false from hb]; decide)]
          have hr2 := hr (by rw [hct]; unfold whenS; split <;> decide)
          repeat first | refine lwp_seq fun K hK => ?_ | (with_reducible refine gA ?_; apply_assumption -exfalso -symm) | refine Stp.h ?_ | refine gF rfl ?_ | refine gG rfl ?_ | refine gM hC rfl ⟨⟩ ?_
          (refine lwp_region hC ⟨[], [], [(1, Cat_i n R [(0, some 2), (1, some 3)]), (2, ContN_i (catL R n) [(0, some 5)])]⟩ (told1 _ (by rw [hP]; exact (calls_cons (Cat_s _ _ _ hn hr2) (calls_cons (ContN_s _ _ (by omega)) calls_nil)))) rfl ?_ ?_; rotate_left 1)
          · repeat first | refine lwp_seq fun K hK => ?_ | (with_reducible refine gA ?_; apply_assumption -exfalso -symm) | refine Stp.h ?_ | refine gF rfl ?_ | refine gG rfl ?_ | refine gM hC rfl sd ?_
            (refine lwp_region hC ⟨[], [], [(1, AWhen_i (decide (firstF (fun i => outB ((catL R n).getD i 0)) (catL R n).length ≥ 0)) 3)]⟩ (told1 _ (by rw [hP]; exact (calls_cons (AWhen_s _ _) calls_nil))) rfl ?_ ?_; rotate_left 1)
            · repeat first | refine lwp_seq fun K hK => ?_ | (with_reducible refine gA ?_; apply_assumption -exfalso -symm) | refine Stp.h ?_ | refine gF rfl ?_ | refine gG rfl ?_ | refine gM hC rfl sd ?_
              (refine end_intro (by first | exact .inr rfl | exact .inl rfl) [(0, some 0), (1, some 1), (2, some 2), (3, some 3)] rfl ?_)
              rw [hct]
              exact sd
            · exact sd
          · exact sd
      · exact sd
  · exact sd

end Go.Proofs.YtfmnfagcbehmdaaGreatDoor
