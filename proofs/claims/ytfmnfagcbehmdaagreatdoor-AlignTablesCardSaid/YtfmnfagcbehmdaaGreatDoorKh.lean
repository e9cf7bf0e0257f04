/- Chapter 5: tables compared, copied, looked through, the reference's. -/
import Derived.Test.YtfmnfagcbehmdaaGreatDoorKf
import Derived.Test.YtfmnfagcbehmdaaGreatDoorKg
set_option linter.unusedVariables false
set_option linter.unusedSimpArgs false
namespace Go.Proofs.YtfmnfagcbehmdaaGreatDoor
open Go.RowKit Go.Sym

theorem ints_ne {a b : List Int} {k : Nat} (h : a.getD k 0 ≠ b.getD k 0) : a ≠ b := fun e => h (by rw [e])
theorem ints_eq {a b : List Int} (hl : a.length = b.length) (h : ∀ k, k < a.length → a.getD k 0 = b.getD k 0) : a = b := by
  refine List.ext_getElem hl fun k h1 h2 => ?_
  have := h k h1
  rw [List.getD_eq_getElem?_getD, List.getD_eq_getElem?_getD, List.getElem?_eq_getElem h1, List.getElem?_eq_getElem h2] at this
  exact this

def SI_i (na nb : Nat) (A B : Nat → List Int) (e : Nat) (σ : Ren) : Inst := { f := 84, hin := [(0, roF na A), (1, roF nb B)], args := [.tb 0 (.row e (A e).length), .tb 1 (.row e (B e).length)], hout := [], ret := bl (decide (A e = B e)), σ := σ }
theorem SI_s (na nb : Nat) (A B : Nat → List Int) (e : Nat) (σ : Ren) (ha : (A e).length ≤ 1000000) (hea : e < na) (heb : e < nb) : (SI_i na nb A B e σ).ok Tryz.prog := by
  unfold SI_i Inst.ok; dsimp only; refine spec_of_body (tys := tys) 2 Tryz.func84 (by kernel_rfl) rfl tys_ok rfl (Nat.le_of_ble_eq_true rfl) (fun _ _ h => (by cases h)) fun F hP hm hC hrd => ?_; conv => whnf
  repeat first | refine lwp_seq fun K hK => ?_ | ((with_reducible refine gA ?_); apply_assumption -exfalso -symm) | refine gB ?_ | refine gC ?_ | refine gD ?_ | refine gE ?_ | refine gF rfl ?_ | refine gG rfl ?_ | refine gH ?_ | refine gI ?_ | refine gJ ?_ | refine gK ?_ | refine gL ?_ | refine gM hC rfl ⟨⟩ ?_ | refine gM hC rfl (by exact sd) ?_
  (refine lwp_cond hC rfl (by first | exact ⟨⟩ | exact sd) (fun hb => ?_) (fun hb => ?_) <;> (try simp only [decide_eq_true_eq, decide_eq_false_iff_not, Bool.not_eq_true', Bool.not_eq_false', ne_eq, Decidable.not_not] at hb))
  · have hne : decide (A e = B e) = false := decide_eq_false fun q => hb (by rw [q])
    repeat first | refine lwp_seq fun K hK => ?_ | ((with_reducible refine gA ?_); apply_assumption -exfalso -symm) | refine gB ?_ | refine gC ?_ | refine gD ?_ | refine gE ?_ | refine gF rfl ?_ | refine gG rfl ?_ | refine gH ?_ | refine gI ?_ | refine gJ ?_ | refine gK ?_ | refine gL ?_ | refine gM hC rfl ⟨⟩ ?_ | refine gM hC rfl (by exact sd) ?_
    (refine end_intro (by first | exact .inr rfl | exact .inl rfl) [(0, some 0), (1, some 1)] rfl ?_)
    rw [hne]
    exact sd
  · have hll : (A e).length = (B e).length := by omega
    repeat first | refine lwp_seq fun K hK => ?_ | ((with_reducible refine gA ?_); apply_assumption -exfalso -symm) | refine gB ?_ | refine gC ?_ | refine gD ?_ | refine gE ?_ | refine gF rfl ?_ | refine gG rfl ?_ | refine gH ?_ | refine gI ?_ | refine gJ ?_ | refine gK ?_ | refine gL ?_ | refine gM hC rfl ⟨⟩ ?_ | refine gM hC rfl (by exact sd) ?_
    refine lwp_loop (fun k : Nat => ⟨[(5, i64 k), (0, .tb 0 (.row e (A e).length)), (1, .tb 1 (.row e (B e).length))], [(0, roF na A), (1, roF nb B)], 2⟩) (fun k => k ≤ (A e).length ∧ ∀ j, j < k → (A e).getD j 0 = (B e).getD j 0) (fun k => (A e).length - k) 0 ⟨?_, sub_intro hm [(0, some 0), (1, some 1)] rfl ?_⟩ ?_
    · exact ⟨Nat.zero_le _, fun j hj => absurd hj (Nat.not_lt_zero _)⟩
    · exact sd
    · rintro k ⟨hk, hkj⟩
      have e1 : (k : Int).toNat = k := Int.toNat_natCast k
      repeat first | refine lwp_seq fun K hK => ?_ | ((with_reducible refine gA ?_); apply_assumption -exfalso -symm) | refine gB ?_ | refine gC ?_ | refine gD ?_ | refine gE ?_ | refine gF rfl ?_ | refine gG rfl ?_ | refine gH ?_ | refine gI ?_ | refine gJ ?_ | refine gK ?_ | refine gL ?_ | refine gM hC rfl ⟨⟩ ?_ | refine gM hC rfl (by exact sd) ?_
      (refine lwp_cond hC rfl (by first | exact ⟨⟩ | exact sd) (fun hb => ?_) (fun hb => ?_) <;> (try simp only [decide_eq_true_eq, decide_eq_false_iff_not, Bool.not_eq_true', Bool.not_eq_false', ne_eq, Decidable.not_not] at hb))
      · have hkl : k < (A e).length := by omega
        repeat first | refine lwp_seq fun K hK => ?_ | ((with_reducible refine gA ?_); apply_assumption -exfalso -symm) | refine gB ?_ | refine gC ?_ | refine gD ?_ | refine gE ?_ | refine gF rfl ?_ | refine gG rfl ?_ | refine gH ?_ | refine gI ?_ | refine gJ ?_ | refine gK ?_ | refine gL ?_ | refine gM hC rfl ⟨⟩ ?_ | refine gM hC rfl (by exact sd) ?_
        (refine lwp_drawn hC (by rw [hP]; exact mixed) ⟨[], [], []⟩ (told0 _ _) [0, 0, 3, 7, 0, 0, 48, 112, 255] 8 rfl ?_ ?_; rotate_left 1)
        · simp only [e1]
          repeat first | refine lwp_seq fun K hK => ?_ | ((with_reducible refine gA ?_); apply_assumption -exfalso -symm) | refine gB ?_ | refine gC ?_ | refine gD ?_ | refine gE ?_ | refine gF rfl ?_ | refine gG rfl ?_ | refine gH ?_ | refine gI ?_ | refine gJ ?_ | refine gK ?_ | refine gL ?_ | refine gM hC rfl ⟨⟩ ?_ | refine gM hC rfl (by exact sd) ?_
          (refine lwp_cond hC rfl (by first | exact ⟨⟩ | exact sd) (fun hb => ?_) (fun hb => ?_) <;> (try simp only [decide_eq_true_eq, decide_eq_false_iff_not, Bool.not_eq_true', Bool.not_eq_false', ne_eq, Decidable.not_not] at hb))
          · have hne : decide (A e = B e) = false := decide_eq_false (ints_ne hb)
            repeat first | refine lwp_seq fun K hK => ?_ | ((with_reducible refine gA ?_); apply_assumption -exfalso -symm) | refine gB ?_ | refine gC ?_ | refine gD ?_ | refine gE ?_ | refine gF rfl ?_ | refine gG rfl ?_ | refine gH ?_ | refine gI ?_ | refine gJ ?_ | refine gK ?_ | refine gL ?_ | refine gM hC rfl ⟨⟩ ?_ | refine gM hC rfl (by exact sd) ?_
            (refine end_intro (by first | exact .inr rfl | exact .inl rfl) [(0, some 0), (1, some 1)] rfl ?_)
            rw [hne]
            exact sd
          · repeat first | refine lwp_seq fun K hK => ?_ | ((with_reducible refine gA ?_); apply_assumption -exfalso -symm) | refine gB ?_ | refine gC ?_ | refine gD ?_ | refine gE ?_ | refine gF rfl ?_ | refine gG rfl ?_ | refine gH ?_ | refine gI ?_ | refine gJ ?_ | refine gK ?_ | refine gL ?_ | refine gM hC rfl ⟨⟩ ?_ | refine gM hC rfl (by exact sd) ?_
            refine gA ⟨k + 1, ?_, ?_, sub_intro hm [(0, some 0), (1, some 1)] rfl ?_⟩
            · exact ⟨by omega, fun j hj => by rcases Nat.lt_succ_iff_lt_or_eq.1 hj with h | rfl; exact hkj j h; exact hb⟩
            · omega
            · exact sd
        · simp only [e1]
          exact sd
      · obtain rfl : k = (A e).length := by omega
        have hyes : decide (A e = B e) = true := decide_eq_true (ints_eq hll hkj)
        repeat first | refine lwp_seq fun K hK => ?_ | ((with_reducible refine gA ?_); apply_assumption -exfalso -symm) | refine gB ?_ | refine gC ?_ | refine gD ?_ | refine gE ?_ | refine gF rfl ?_ | refine gG rfl ?_ | refine gH ?_ | refine gI ?_ | refine gJ ?_ | refine gK ?_ | refine gL ?_ | refine gM hC rfl ⟨⟩ ?_ | refine gM hC rfl (by exact sd) ?_
        (refine end_intro (by first | exact .inr rfl | exact .inl rfl) [(0, some 0), (1, some 1)] rfl ?_)
        rw [hyes]
        exact sd

def sameTS (na : Nat) (A : Nat → List Int) (nb : Nat) (B : Nat → List Int) : Bool := decide (na = nb) && (List.range na).all fun e => decide (A e = B e)
def SameT_i (na : Nat) (A : Nat → List Int) (nb : Nat) (B : Nat → List Int) (σ : Ren) : Inst := { f := 29, hin := [(0, roF na A), (1, roT 0 na A), (2, roF nb B), (3, roT 2 nb B)], args := [.sl 1 na, .sl 3 nb], hout := [], ret := bl (sameTS na A nb B), σ := σ }
theorem SameT_s (na : Nat) (A : Nat → List Int) (nb : Nat) (B : Nat → List Int) (σ : Ren) (hn : na ≤ 1000000) (hA : ∀ e, e < na → (A e).length ≤ 1000000) : (SameT_i na A nb B σ).ok Tryz.prog := by
  unfold SameT_i Inst.ok; dsimp only; refine spec_of_body (tys := tys) 4 Tryz.func29 (by kernel_rfl) rfl tys_ok rfl (Nat.le_of_ble_eq_true rfl) (fun _ _ h => (by cases h)) fun F hP hm hC hrd => ?_; conv => whnf
  repeat first | refine lwp_seq fun K hK => ?_ | ((with_reducible refine gA ?_); apply_assumption -exfalso -symm) | refine gB ?_ | refine gC ?_ | refine gD ?_ | refine gE ?_ | refine gF rfl ?_ | refine gG rfl ?_ | refine gH ?_ | refine gI ?_ | refine gJ ?_ | refine gK ?_ | refine gL ?_ | refine gM hC rfl ⟨⟩ ?_ | refine gM hC rfl (by exact sd) ?_
  (refine lwp_cond hC rfl (by first | exact ⟨⟩ | exact sd) (fun hb => ?_) (fun hb => ?_) <;> (try simp only [decide_eq_true_eq, decide_eq_false_iff_not, Bool.not_eq_true', Bool.not_eq_false', ne_eq, Decidable.not_not] at hb))
  · have hne : sameTS na A nb B = false := by unfold sameTS; rw [decide_eq_false (by omega)]; rfl
    repeat first | refine lwp_seq fun K hK => ?_ | ((with_reducible refine gA ?_); apply_assumption -exfalso -symm) | refine gB ?_ | refine gC ?_ | refine gD ?_ | refine gE ?_ | refine gF rfl ?_ | refine gG rfl ?_ | refine gH ?_ | refine gI ?_ | refine gJ ?_ | refine gK ?_ | refine gL ?_ | refine gM hC rfl ⟨⟩ ?_ | refine gM hC rfl (by exact sd) ?_
    (refine end_intro (by first | exact .inr rfl | exact .inl rfl) [(0, some 0), (1, some 1), (2, some 2), (3, some 3)] rfl ?_)
    rw [hne]
    exact sd
  · have hll : na = nb := by omega
    subst hll
    repeat first | refine lwp_seq fun K hK => ?_ | ((with_reducible refine gA ?_); apply_assumption -exfalso -symm) | refine gB ?_ | refine gC ?_ | refine gD ?_ | refine gE ?_ | refine gF rfl ?_ | refine gG rfl ?_ | refine gH ?_ | refine gI ?_ | refine gJ ?_ | refine gK ?_ | refine gL ?_ | refine gM hC rfl ⟨⟩ ?_ | refine gM hC rfl (by exact sd) ?_
    refine lwp_loop (fun k : Nat => ⟨[(5, i64 k), (0, .sl 1 na), (1, .sl 3 na)], [(0, roF na A), (1, roT 0 na A), (2, roF na B), (3, roT 2 na B)], 4⟩) (fun k => k ≤ na ∧ ∀ j, j < k → (fun e => decide (A e = B e)) j = true) (fun k => na - k) 0 ⟨?_, sub_intro hm [(0, some 0), (1, some 1), (2, some 2), (3, some 3)] rfl ?_⟩ ?_
    · exact ⟨Nat.zero_le _, fun j hj => absurd hj (Nat.not_lt_zero _)⟩
    · exact sd
    · rintro k ⟨hk, hkj⟩
      have e1 : (k : Int).toNat = k := Int.toNat_natCast k
      repeat first | refine lwp_seq fun K hK => ?_ | ((with_reducible refine gA ?_); apply_assumption -exfalso -symm) | refine gB ?_ | refine gC ?_ | refine gD ?_ | refine gE ?_ | refine gF rfl ?_ | refine gG rfl ?_ | refine gH ?_ | refine gI ?_ | refine gJ ?_ | refine gK ?_ | refine gL ?_ | refine gM hC rfl ⟨⟩ ?_ | refine gM hC rfl (by exact sd) ?_
      (refine lwp_cond hC rfl (by first | exact ⟨⟩ | exact sd) (fun hb => ?_) (fun hb => ?_) <;> (try simp only [decide_eq_true_eq, decide_eq_false_iff_not, Bool.not_eq_true', Bool.not_eq_false', ne_eq, Decidable.not_not] at hb))
      · have hkl : k < na := by omega
        repeat first | refine lwp_seq fun K hK => ?_ | ((with_reducible refine gA ?_); apply_assumption -exfalso -symm) | refine gB ?_ | refine gC ?_ | refine gD ?_ | refine gE ?_ | refine gF rfl ?_ | refine gG rfl ?_ | refine gH ?_ | refine gI ?_ | refine gJ ?_ | refine gK ?_ | refine gL ?_ | refine gM hC rfl ⟨⟩ ?_ | refine gM hC rfl (by exact sd) ?_
        (refine lwp_drawn hC (by rw [hP]; exact mixed) ⟨[], [], [(8, SI_i na na A B k [(0, some 0), (1, some 2)])]⟩ (told1 _ (by rw [hP]; exact (calls_cons (SI_s _ _ _ _ _ _ (hA k hkl) hkl hkl) calls_nil))) [0, 0, 3, 7, 0, 0, 48, 112, 255, 511] 8 rfl ?_ ?_; rotate_left 1)
        · repeat first | refine lwp_seq fun K hK => ?_ | ((with_reducible refine gA ?_); apply_assumption -exfalso -symm) | refine gB ?_ | refine gC ?_ | refine gD ?_ | refine gE ?_ | refine gF rfl ?_ | refine gG rfl ?_ | refine gH ?_ | refine gI ?_ | refine gJ ?_ | refine gK ?_ | refine gL ?_ | refine gM hC rfl ⟨⟩ ?_ | refine gM hC rfl (by exact sd) ?_
          (refine lwp_cond hC rfl (by first | exact ⟨⟩ | exact sd) (fun hb => ?_) (fun hb => ?_) <;> (try simp only [decide_eq_true_eq, decide_eq_false_iff_not, Bool.not_eq_true', Bool.not_eq_false', ne_eq, Decidable.not_not] at hb))
          · have hne : sameTS na A na B = false := by unfold sameTS; rw [all_no hkl (show (fun e => decide (A e = B e)) k = false by simpa using hb)]; simp
            repeat first | refine lwp_seq fun K hK => ?_ | ((with_reducible refine gA ?_); apply_assumption -exfalso -symm) | refine gB ?_ | refine gC ?_ | refine gD ?_ | refine gE ?_ | refine gF rfl ?_ | refine gG rfl ?_ | refine gH ?_ | refine gI ?_ | refine gJ ?_ | refine gK ?_ | refine gL ?_ | refine gM hC rfl ⟨⟩ ?_ | refine gM hC rfl (by exact sd) ?_
            (refine end_intro (by first | exact .inr rfl | exact .inl rfl) [(0, some 0), (1, some 1), (2, some 2), (3, some 3)] rfl ?_)
            rw [hne]
            exact sd
          · have hyes : (fun e => decide (A e = B e)) k = true := by simpa using hb
            repeat first | refine lwp_seq fun K hK => ?_ | ((with_reducible refine gA ?_); apply_assumption -exfalso -symm) | refine gB ?_ | refine gC ?_ | refine gD ?_ | refine gE ?_ | refine gF rfl ?_ | refine gG rfl ?_ | refine gH ?_ | refine gI ?_ | refine gJ ?_ | refine gK ?_ | refine gL ?_ | refine gM hC rfl ⟨⟩ ?_ | refine gM hC rfl (by exact sd) ?_
            refine gA ⟨k + 1, ?_, ?_, sub_intro hm [(0, some 0), (1, some 1), (2, some 2), (3, some 3)] rfl ?_⟩
            · exact ⟨by omega, fun j hj => by rcases Nat.lt_succ_iff_lt_or_eq.1 hj with h | rfl; exact hkj j h; exact hyes⟩
            · omega
            · exact sd
        · simp only [e1]
          exact sd
      · obtain rfl : k = na := by omega
        have hyes : sameTS k A k B = true := by unfold sameTS; rw [all_yes hkj]; simp
        repeat first | refine lwp_seq fun K hK => ?_ | ((with_reducible refine gA ?_); apply_assumption -exfalso -symm) | refine gB ?_ | refine gC ?_ | refine gD ?_ | refine gE ?_ | refine gF rfl ?_ | refine gG rfl ?_ | refine gH ?_ | refine gI ?_ | refine gJ ?_ | refine gK ?_ | refine gL ?_ | refine gM hC rfl ⟨⟩ ?_ | refine gM hC rfl (by exact sd) ?_
        (refine end_intro (by first | exact .inr rfl | exact .inl rfl) [(0, some 0), (1, some 1), (2, some 2), (3, some 3)] rfl ?_)
        rw [hyes]
        exact sd

def shTS (n : Nat) (R : Nat → List Int) : Bool := (List.range n).all (fun e => decide ((R e).length ≤ 9)) && decide (n ≤ 9)
def ShT_i (n : Nat) (R : Nat → List Int) (σ : Ren) : Inst := { f := 20, hin := [(0, roF n R), (1, roT 0 n R)], args := [.sl 1 n], hout := [], ret := bl (shTS n R), σ := σ }
theorem ShT_s (n : Nat) (R : Nat → List Int) (σ : Ren) (hn : n ≤ 9223372036854775807) : (ShT_i n R σ).ok Tryz.prog := by
  unfold ShT_i Inst.ok; dsimp only; refine spec_of_body (tys := tys) 2 Tryz.func20 (by kernel_rfl) rfl tys_ok rfl (Nat.le_of_ble_eq_true rfl) (fun _ _ h => (by cases h)) fun F hP hm hC hrd => ?_; conv => whnf
  repeat first | refine lwp_seq fun K hK => ?_ | ((with_reducible refine gA ?_); apply_assumption -exfalso -symm) | refine gB ?_ | refine gC ?_ | refine gD ?_ | refine gE ?_ | refine gF rfl ?_ | refine gG rfl ?_ | refine gH ?_ | refine gI ?_ | refine gJ ?_ | refine gK ?_ | refine gL ?_ | refine gM hC rfl ⟨⟩ ?_ | refine gM hC rfl (by exact sd) ?_
  refine lwp_loop (fun k : Nat => ⟨[(3, i64 k), (0, .sl 1 n)], [(0, roF n R), (1, roT 0 n R)], 2⟩) (fun k => k ≤ n ∧ ∀ j, j < k → (fun e => decide ((R e).length ≤ 9)) j = true) (fun k => n - k) 0 ⟨?_, sub_intro hm [(0, some 0), (1, some 1)] rfl ?_⟩ ?_
  · exact ⟨Nat.zero_le _, fun j hj => absurd hj (Nat.not_lt_zero _)⟩
  · exact sd
  · rintro k ⟨hk, hkj⟩
    have e1 : (k : Int).toNat = k := Int.toNat_natCast k
    repeat first | refine lwp_seq fun K hK => ?_ | ((with_reducible refine gA ?_); apply_assumption -exfalso -symm) | refine gB ?_ | refine gC ?_ | refine gD ?_ | refine gE ?_ | refine gF rfl ?_ | refine gG rfl ?_ | refine gH ?_ | refine gI ?_ | refine gJ ?_ | refine gK ?_ | refine gL ?_ | refine gM hC rfl ⟨⟩ ?_ | refine gM hC rfl (by exact sd) ?_
    (refine lwp_cond hC rfl (by first | exact ⟨⟩ | exact sd) (fun hb => ?_) (fun hb => ?_) <;> (try simp only [decide_eq_true_eq, decide_eq_false_iff_not, Bool.not_eq_true', Bool.not_eq_false', ne_eq, Decidable.not_not] at hb))
    · have hkn : k < n := by omega
      repeat first | refine lwp_seq fun K hK => ?_ | ((with_reducible refine gA ?_); apply_assumption -exfalso -symm) | refine gB ?_ | refine gC ?_ | refine gD ?_ | refine gE ?_ | refine gF rfl ?_ | refine gG rfl ?_ | refine gH ?_ | refine gI ?_ | refine gJ ?_ | refine gK ?_ | refine gL ?_ | refine gM hC rfl ⟨⟩ ?_ | refine gM hC rfl (by exact sd) ?_
      simp only [e1]
      (refine lwp_cond hC rfl (by first | exact ⟨⟩ | exact sd) (fun hb => ?_) (fun hb => ?_) <;> (try simp only [decide_eq_true_eq, decide_eq_false_iff_not, Bool.not_eq_true', Bool.not_eq_false', ne_eq, Decidable.not_not] at hb))
      · have hno : shTS n R = false := by unfold shTS; rw [all_no hkn (show (fun e => decide ((R e).length ≤ 9)) k = false from decide_eq_false (by omega))]; rfl
        repeat first | refine lwp_seq fun K hK => ?_ | ((with_reducible refine gA ?_); apply_assumption -exfalso -symm) | refine gB ?_ | refine gC ?_ | refine gD ?_ | refine gE ?_ | refine gF rfl ?_ | refine gG rfl ?_ | refine gH ?_ | refine gI ?_ | refine gJ ?_ | refine gK ?_ | refine gL ?_ | refine gM hC rfl ⟨⟩ ?_ | refine gM hC rfl (by exact sd) ?_
        (refine end_intro (by first | exact .inr rfl | exact .inl rfl) [(0, some 0), (1, some 1)] rfl ?_)
        rw [hno]
        exact sd
      · have hyes : (fun e => decide ((R e).length ≤ 9)) k = true := decide_eq_true (by omega)
        repeat first | refine lwp_seq fun K hK => ?_ | ((with_reducible refine gA ?_); apply_assumption -exfalso -symm) | refine gB ?_ | refine gC ?_ | refine gD ?_ | refine gE ?_ | refine gF rfl ?_ | refine gG rfl ?_ | refine gH ?_ | refine gI ?_ | refine gJ ?_ | refine gK ?_ | refine gL ?_ | refine gM hC rfl ⟨⟩ ?_ | refine gM hC rfl (by exact sd) ?_
        refine gA ⟨k + 1, ?_, ?_, sub_intro hm [(0, some 0), (1, some 1)] rfl ?_⟩
        · exact ⟨by omega, fun j hj => by rcases Nat.lt_succ_iff_lt_or_eq.1 hj with h | rfl; exact hkj j h; exact hyes⟩
        · omega
        · exact sd
    · obtain rfl : k = n := by omega
      have hyes : shTS k R = decide ((k : Int) ≤ 9) := by unfold shTS; rw [all_yes hkj]; simp; omega
      repeat first | refine lwp_seq fun K hK => ?_ | ((with_reducible refine gA ?_); apply_assumption -exfalso -symm) | refine gB ?_ | refine gC ?_ | refine gD ?_ | refine gE ?_ | refine gF rfl ?_ | refine gG rfl ?_ | refine gH ?_ | refine gI ?_ | refine gJ ?_ | refine gK ?_ | refine gL ?_ | refine gM hC rfl ⟨⟩ ?_ | refine gM hC rfl (by exact sd) ?_
      (refine end_intro (by first | exact .inr rfl | exact .inl rfl) [(0, some 0), (1, some 1)] rfl ?_)
      rw [hyes]
      exact sd

def LTab_i (n : Nat) (R : Nat → List Int) (σ : Ren) : Inst := { f := 23, hin := [(0, roF n R), (1, roT 0 n R)], args := [.sl 1 n], hout := [(2, tabC 3 n R), (3, famC n R)], ret := .sl 2 n, σ := σ }
theorem LTab_s (n : Nat) (R : Nat → List Int) (σ : Ren) (hn : n ≤ 1000000) (hR : ∀ e, e < n → (R e).length ≤ 1000000) : (LTab_i n R σ).ok Tryz.prog := by
  unfold LTab_i Inst.ok; dsimp only; refine spec_of_body (tys := tys) 2 Tryz.func23 (by kernel_rfl) rfl tys_ok rfl (Nat.le_of_ble_eq_true rfl) (fun _ _ h => (by cases h)) fun F hP hm hC hrd => ?_; conv => whnf
  repeat first | refine lwp_seq fun K hK => ?_ | ((with_reducible refine gA ?_); apply_assumption -exfalso -symm) | refine gB ?_ | refine gC ?_ | refine gD ?_ | refine gE ?_ | refine gF rfl ?_ | refine gG rfl ?_ | refine gH ?_ | refine gI ?_ | refine gJ ?_ | refine gK ?_ | refine gL ?_ | refine gM hC rfl ⟨⟩ ?_ | refine gM hC rfl (by exact sd) ?_
  refine lwp_sub (fam0_sub true 3 1 (fun q => (R q).length) (fun q => .ints .i64 (R q)) (by decide)) ?_
  refine lwp_loop (fun k : Nat => ⟨[(8, i64 k), (7, i64 n), (6, .sl 1 n), (3, .sl 2 k)], [(2, tabC 3 k R), (3, famC k R), (0, roF n R), (1, roT 0 n R)], 4⟩) (fun k => k ≤ n) (fun k => n - k) 0 ⟨?_, sub_intro hm [(0, some 0), (1, some 1), (2, none), (3, some 2)] rfl ?_⟩ ?_
  · exact Nat.zero_le _
  · exact sd
  · rintro k hk
    have e1 : (k : Int).toNat = k := Int.toNat_natCast k
    repeat first | refine lwp_seq fun K hK => ?_ | ((with_reducible refine gA ?_); apply_assumption -exfalso -symm) | refine gB ?_ | refine gC ?_ | refine gD ?_ | refine gE ?_ | refine gF rfl ?_ | refine gG rfl ?_ | refine gH ?_ | refine gI ?_ | refine gJ ?_ | refine gK ?_ | refine gL ?_ | refine gM hC rfl ⟨⟩ ?_ | refine gM hC rfl (by exact sd) ?_
    (refine lwp_cond hC rfl (by first | exact ⟨⟩ | exact sd) (fun hb => ?_) (fun hb => ?_) <;> (try simp only [decide_eq_true_eq, decide_eq_false_iff_not, Bool.not_eq_true', Bool.not_eq_false', ne_eq, Decidable.not_not] at hb))
    · have hkn : k < n := by omega
      have hRk := hR k hkn
      repeat first | refine lwp_seq fun K hK => ?_ | ((with_reducible refine gA ?_); apply_assumption -exfalso -symm) | refine gB ?_ | refine gC ?_ | refine gD ?_ | refine gE ?_ | refine gF rfl ?_ | refine gG rfl ?_ | refine gH ?_ | refine gI ?_ | refine gJ ?_ | refine gK ?_ | refine gL ?_ | refine gM hC rfl ⟨⟩ ?_ | refine gM hC rfl (by exact sd) ?_
      simp only [e1]
      repeat first | refine lwp_seq fun K hK => ?_ | ((with_reducible refine gA ?_); apply_assumption -exfalso -symm) | refine gB ?_ | refine gC ?_ | refine gD ?_ | refine gE ?_ | refine gF rfl ?_ | refine gG rfl ?_ | refine gH ?_ | refine gI ?_ | refine gJ ?_ | refine gK ?_ | refine gL ?_ | refine gM hC rfl ⟨⟩ ?_ | refine gM hC rfl (by exact sd) ?_
      have key1 : ∀ q, (R q).length = if q = k then 0 + (R k).length else (R q).length := fun q => by split; rename_i h; rw [h, Nat.zero_add]; rfl
      have key2 : ∀ q, (Cont.ints .i64 (R q)).cells = (if q = k then Cont.ints .i64 (R k) else Cont.ints .i64 (R q)).cells := fun q => by split; rename_i h; rw [h]; rfl
      refine gA ⟨k + 1, ?_, ?_, Sub.trans (put_sub (i := 7) (j := 3) (k := 5) (e := k) rfl rfl rfl (app_tbl _ _ _ _) (Nat.lt_succ_self _) (fun q h1 h2 => by omega) rfl) (sub_intro hm [(0, some 0), (1, some 1), (2, some 7), (3, some 8)] rfl ?_)⟩
      · omega
      · omega
      · simp only [AllL, All, cd_p, cp_p, cv_p]
        (repeat' (first | refine And.intro ?_ ?_ | intro _)) <;> first | omega | exact True.intro | exact key1 _ | exact key2 _ | rfl
    · obtain rfl : k = n := by omega
      repeat first | refine lwp_seq fun K hK => ?_ | ((with_reducible refine gA ?_); apply_assumption -exfalso -symm) | refine gB ?_ | refine gC ?_ | refine gD ?_ | refine gE ?_ | refine gF rfl ?_ | refine gG rfl ?_ | refine gH ?_ | refine gI ?_ | refine gJ ?_ | refine gK ?_ | refine gL ?_ | refine gM hC rfl ⟨⟩ ?_ | refine gM hC rfl (by exact sd) ?_
      (refine end_intro (by first | exact .inr rfl | exact .inl rfl) [(0, some 0), (1, some 1), (2, some 2), (3, some 3)] rfl ?_)
      exact sd

/-! The form of a table, as the reference looks at it: the same error. -/
theorem ctS_shape {m s : List Th} {n : Nat} {R : Nat → List Int} (h : n ≠ s.length ∨ ∃ e, e < n ∧ (R e).length ≠ m.length) : ctS m s n R = 2 := by
  unfold ctS
  rw [if_pos]
  rcases h with h | ⟨e, he, h⟩
  · rw [decide_eq_true (show (n : Int) ≠ s.length by omega)]
    cases decide (firstF (shortB m.length R) n ≥ 0) <;> rfl
  · rw [firstF_any.2 ⟨e, he, by unfold shortB; simp; omega⟩]
    rfl
theorem ctS_ok {m s : List Th} {n : Nat} {R : Nat → List Int} (hn : n = s.length) (hl : ∀ e, e < n → (R e).length = m.length) : ctS m s n R = whenS (decide (firstF (fun i => outB ((catL R n).getD i 0)) (catL R n).length ≥ 0)) 3 := by
  unfold ctS
  rw [if_neg]
  have h1 : decide (firstF (shortB m.length R) n ≥ 0) = false := by
    cases q : decide (firstF (shortB m.length R) n ≥ 0) with
    | false => rfl
    | true =>
      obtain ⟨e, he, h2⟩ := firstF_any.1 q
      unfold shortB at h2
      have := hl e he
      simp at h2; omega
  rw [h1, decide_eq_false (show ¬ (n : Int) ≠ s.length by omega)]
  decide
theorem ctS_range {m s : List Th} {n : Nat} {R : Nat → List Int} (hn : n = s.length) (hl : ∀ e, e < n → (R e).length = m.length) {e k : Nat} (he : e < n) (hk : k < (R e).length) (h : outB ((R e).getD k 0) = true) : ctS m s n R = 3 := by
  rw [ctS_ok hn hl]
  have hm : (R e).getD k 0 ∈ catL R n := mem_catL (by rw [List.getD_eq_getElem?_getD, List.getElem?_eq_getElem hk]; exact List.getElem_mem hk) he
  obtain ⟨i, hi, e1⟩ := List.getElem_of_mem hm
  rw [firstF_any.2 ⟨i, hi, by rw [List.getD_eq_getElem?_getD, List.getElem?_eq_getElem hi]; show outB (catL R n)[i] = true; rw [e1]; exact h⟩]
  rfl
theorem catL_mem {R : Nat → List Int} {x : Int} : ∀ {n : Nat}, x ∈ catL R n → ∃ e, e < n ∧ x ∈ R e
  | 0, h => by cases h
  | n + 1, h => by
    rcases List.mem_append.1 h with h | h
    · obtain ⟨e, he, h2⟩ := catL_mem h
      exact ⟨e, by omega, h2⟩
    · exact ⟨n, by omega, h⟩
theorem getD_at {l : List Int} {k : Nat} (h : k < l.length) : l.getD k 0 = l[k] := by rw [List.getD_eq_getElem?_getD, List.getElem?_eq_getElem h]; rfl
theorem ctS_good {m s : List Th} {n : Nat} {R : Nat → List Int} (hn : n = s.length) (hl : ∀ e, e < n → (R e).length = m.length) (h : ∀ e, e < n → ∀ k, k < (R e).length → outB ((R e).getD k 0) = false) : ctS m s n R = 0 := by
  rw [ctS_ok hn hl]
  cases q : decide (firstF (fun i => outB ((catL R n).getD i 0)) (catL R n).length ≥ 0) with
  | false => rfl
  | true =>
    obtain ⟨i, hi, h2⟩ := firstF_any.1 q
    rw [getD_at hi] at h2
    obtain ⟨e, he, h3⟩ := catL_mem (List.getElem_mem hi)
    obtain ⟨k, hk, h4⟩ := List.getElem_of_mem h3
    have h5 := h e he k hk
    rw [getD_at hk, h4, h2] at h5
    cases h5

def RShape_i (m s : List Th) (n : Nat) (R : Nat → List Int) (σ : Ren) : Inst := { f := 25, hin := tabIn m s n R, args := [rdA m s, .sl 3 n], hout := [], ret := i64 (ctS m s n R), σ := σ }
set_option maxRecDepth 20000 in
set_option maxHeartbeats 4000000 in
theorem RShape_s (m s : List Th) (n : Nat) (R : Nat → List Int) (σ : Ren) (hm' : m.length ≤ 1000000) (hs' : s.length ≤ 1000000) (hn : n ≤ 1000000) (hR : ∀ e, e < n → (R e).length ≤ 1000000) : (RShape_i m s n R σ).ok Tryz.prog := by
  unfold RShape_i Inst.ok; dsimp only; refine spec_of_body (tys := tys) 4 Tryz.func25 (by kernel_rfl) rfl tys_ok rfl (Nat.le_of_ble_eq_true rfl) (fun _ _ h => (by cases h)) fun F hP hm hC hrd => ?_; conv => whnf
  repeat first | refine lwp_seq fun K hK => ?_ | ((with_reducible refine gA ?_); apply_assumption -exfalso -symm) | refine gB ?_ | refine gC ?_ | refine gD ?_ | refine gE ?_ | refine gF rfl ?_ | refine gG rfl ?_ | refine gH ?_ | refine gI ?_ | refine gJ ?_ | refine gK ?_ | refine gL ?_ | refine gM hC rfl ⟨⟩ ?_ | refine gM hC rfl (by exact sd) ?_
  (refine lwp_cond hC rfl (by first | exact ⟨⟩ | exact sd) (fun hb => ?_) (fun hb => ?_) <;> (try simp only [decide_eq_true_eq, decide_eq_false_iff_not, Bool.not_eq_true', Bool.not_eq_false', ne_eq, Decidable.not_not] at hb))
  · have hE : ctS m s n R = 2 := ctS_shape (.inl (by omega))
    repeat first | refine lwp_seq fun K hK => ?_ | ((with_reducible refine gA ?_); apply_assumption -exfalso -symm) | refine gB ?_ | refine gC ?_ | refine gD ?_ | refine gE ?_ | refine gF rfl ?_ | refine gG rfl ?_ | refine gH ?_ | refine gI ?_ | refine gJ ?_ | refine gK ?_ | refine gL ?_ | refine gM hC rfl ⟨⟩ ?_ | refine gM hC rfl (by exact sd) ?_
    (refine end_intro (by first | exact .inr rfl | exact .inl rfl) [(0, some 0), (1, some 1), (2, some 2), (3, some 3)] rfl ?_)
    rw [hE]
    exact sd
  · have hns : n = s.length := by omega
    repeat first | refine lwp_seq fun K hK => ?_ | ((with_reducible refine gA ?_); apply_assumption -exfalso -symm) | refine gB ?_ | refine gC ?_ | refine gD ?_ | refine gE ?_ | refine gF rfl ?_ | refine gG rfl ?_ | refine gH ?_ | refine gI ?_ | refine gJ ?_ | refine gK ?_ | refine gL ?_ | refine gM hC rfl ⟨⟩ ?_ | refine gM hC rfl (by exact sd) ?_
    refine lwp_loop (fun i : Nat => ⟨[(5, i64 i), (1, .sl 3 n), (2, .ptr 4 0 0 0)], [(0, .ro m.length 2 (thC m)), (1, .ro s.length 2 (thC s)), (2, roF n R), (3, roT 2 n R), (4, .blk 25 [.sl 0 m.length, .sl 1 s.length])], 5⟩) (fun i => i ≤ n ∧ ∀ e, e < i → (R e).length = m.length) (fun i => n - i) 0 ⟨?_, sub_intro hm [(0, some 0), (1, some 1), (2, some 2), (3, some 3), (4, some 4)] rfl ?_⟩ ?_
    · exact ⟨Nat.zero_le _, fun e he => absurd he (Nat.not_lt_zero _)⟩
    · exact sd
    · rintro i ⟨hi, hie⟩
      have e1 : (i : Int).toNat = i := Int.toNat_natCast i
      repeat first | refine lwp_seq fun K hK => ?_ | ((with_reducible refine gA ?_); apply_assumption -exfalso -symm) | refine gB ?_ | refine gC ?_ | refine gD ?_ | refine gE ?_ | refine gF rfl ?_ | refine gG rfl ?_ | refine gH ?_ | refine gI ?_ | refine gJ ?_ | refine gK ?_ | refine gL ?_ | refine gM hC rfl ⟨⟩ ?_ | refine gM hC rfl (by exact sd) ?_
      (refine lwp_cond hC rfl (by first | exact ⟨⟩ | exact sd) (fun hb => ?_) (fun hb => ?_) <;> (try simp only [decide_eq_true_eq, decide_eq_false_iff_not, Bool.not_eq_true', Bool.not_eq_false', ne_eq, Decidable.not_not] at hb))
      · have hin : i < n := by omega
        repeat first | refine lwp_seq fun K hK => ?_ | ((with_reducible refine gA ?_); apply_assumption -exfalso -symm) | refine gB ?_ | refine gC ?_ | refine gD ?_ | refine gE ?_ | refine gF rfl ?_ | refine gG rfl ?_ | refine gH ?_ | refine gI ?_ | refine gJ ?_ | refine gK ?_ | refine gL ?_ | refine gM hC rfl ⟨⟩ ?_ | refine gM hC rfl (by exact sd) ?_
        (refine lwp_drawn hC (by rw [hP]; exact mixed) ⟨[], [], []⟩ (told0 _ _) [0, 0, 3, 7, 15, 0, 32, 96, 255] 8 rfl ?_ ?_; rotate_left 1)
        · simp only [e1]
          repeat first | refine lwp_seq fun K hK => ?_ | ((with_reducible refine gA ?_); apply_assumption -exfalso -symm) | refine gB ?_ | refine gC ?_ | refine gD ?_ | refine gE ?_ | refine gF rfl ?_ | refine gG rfl ?_ | refine gH ?_ | refine gI ?_ | refine gJ ?_ | refine gK ?_ | refine gL ?_ | refine gM hC rfl ⟨⟩ ?_ | refine gM hC rfl (by exact sd) ?_
          (refine lwp_cond hC rfl (by first | exact ⟨⟩ | exact sd) (fun hb => ?_) (fun hb => ?_) <;> (try simp only [decide_eq_true_eq, decide_eq_false_iff_not, Bool.not_eq_true', Bool.not_eq_false', ne_eq, Decidable.not_not] at hb))
          · have hE : ctS m s n R = 2 := ctS_shape (.inr ⟨i, hin, by omega⟩)
            repeat first | refine lwp_seq fun K hK => ?_ | ((with_reducible refine gA ?_); apply_assumption -exfalso -symm) | refine gB ?_ | refine gC ?_ | refine gD ?_ | refine gE ?_ | refine gF rfl ?_ | refine gG rfl ?_ | refine gH ?_ | refine gI ?_ | refine gJ ?_ | refine gK ?_ | refine gL ?_ | refine gM hC rfl ⟨⟩ ?_ | refine gM hC rfl (by exact sd) ?_
            (refine end_intro (by first | exact .inr rfl | exact .inl rfl) [(0, some 0), (1, some 1), (2, some 2), (3, some 3)] rfl ?_)
            rw [hE]
            exact sd
          · have hyes : (R i).length = m.length := by omega
            repeat first | refine lwp_seq fun K hK => ?_ | ((with_reducible refine gA ?_); apply_assumption -exfalso -symm) | refine gB ?_ | refine gC ?_ | refine gD ?_ | refine gE ?_ | refine gF rfl ?_ | refine gG rfl ?_ | refine gH ?_ | refine gI ?_ | refine gJ ?_ | refine gK ?_ | refine gL ?_ | refine gM hC rfl ⟨⟩ ?_ | refine gM hC rfl (by exact sd) ?_
            refine gA ⟨i + 1, ?_, ?_, sub_intro hm [(0, some 0), (1, some 1), (2, some 2), (3, some 3), (4, some 4)] rfl ?_⟩
            · exact ⟨by omega, fun e he => by rcases Nat.lt_succ_iff_lt_or_eq.1 he with h | rfl; exact hie e h; exact hyes⟩
            · omega
            · exact sd
        · simp only [e1]
          exact sd
      · obtain rfl : i = n := by omega
        have hlen := hie
        have HL := Lib.hid hlen
        clear hie hlen hb
        repeat first | refine lwp_seq fun K hK => ?_ | ((with_reducible refine gA ?_); apply_assumption -exfalso -symm) | refine gB ?_ | refine gC ?_ | refine gD ?_ | refine gE ?_ | refine gF rfl ?_ | refine gG rfl ?_ | refine gH ?_ | refine gI ?_ | refine gJ ?_ | refine gK ?_ | refine gL ?_ | refine gM hC rfl ⟨⟩ ?_ | refine gM hC rfl (by exact sd) ?_
        refine lwp_loop (fun j : Nat => ⟨[(6, i64 j), (1, .sl 3 i), (2, .ptr 4 0 0 0)], [(0, .ro m.length 2 (thC m)), (1, .ro s.length 2 (thC s)), (2, roF i R), (3, roT 2 i R), (4, .blk 25 [.sl 0 m.length, .sl 1 s.length])], 5⟩) (fun j => j ≤ i ∧ ∀ e, e < j → ∀ k, k < (R e).length → outB ((R e).getD k 0) = false) (fun j => i - j) 0 ⟨?_, sub_intro hm [(0, some 0), (1, some 1), (2, some 2), (3, some 3), (4, some 4)] rfl ?_⟩ ?_
        · exact ⟨Nat.zero_le _, fun e he => absurd he (Nat.not_lt_zero _)⟩
        · exact sd
        · rintro j ⟨hj, hje⟩
          have e2 : (j : Int).toNat = j := Int.toNat_natCast j
          have HJE := Lib.hid hje
          clear hje
          repeat first | refine lwp_seq fun K hK => ?_ | ((with_reducible refine gA ?_); apply_assumption -exfalso -symm) | refine gB ?_ | refine gC ?_ | refine gD ?_ | refine gE ?_ | refine gF rfl ?_ | refine gG rfl ?_ | refine gH ?_ | refine gI ?_ | refine gJ ?_ | refine gK ?_ | refine gL ?_ | refine gM hC rfl ⟨⟩ ?_ | refine gM hC rfl (by exact sd) ?_
          (refine lwp_cond hC rfl (by first | exact ⟨⟩ | exact sd) (fun hb => ?_) (fun hb => ?_) <;> (try simp only [decide_eq_true_eq, decide_eq_false_iff_not, Bool.not_eq_true', Bool.not_eq_false', ne_eq, Decidable.not_not] at hb))
          · have hjn : j < i := by omega
            have hRj := hR j hjn
            repeat first | refine lwp_seq fun K hK => ?_ | ((with_reducible refine gA ?_); apply_assumption -exfalso -symm) | refine gB ?_ | refine gC ?_ | refine gD ?_ | refine gE ?_ | refine gF rfl ?_ | refine gG rfl ?_ | refine gH ?_ | refine gI ?_ | refine gJ ?_ | refine gK ?_ | refine gL ?_ | refine gM hC rfl ⟨⟩ ?_ | refine gM hC rfl (by exact sd) ?_
            refine lwp_loop (fun k : Nat => ⟨[(7, i64 k), (6, i64 j), (1, .sl 3 i), (2, .ptr 4 0 0 0)], [(0, .ro m.length 2 (thC m)), (1, .ro s.length 2 (thC s)), (2, roF i R), (3, roT 2 i R), (4, .blk 25 [.sl 0 m.length, .sl 1 s.length])], 5⟩) (fun k => k ≤ (R j).length ∧ ∀ e, e < k → outB ((R j).getD e 0) = false) (fun k => (R j).length - k) 0 ⟨?_, sub_intro hm [(0, some 0), (1, some 1), (2, some 2), (3, some 3), (4, some 4)] rfl ?_⟩ ?_
            · exact ⟨Nat.zero_le _, fun e he => absurd he (Nat.not_lt_zero _)⟩
            · exact sd
            · rintro k ⟨hk, hke⟩
              have e3 : (k : Int).toNat = k := Int.toNat_natCast k
              repeat first | refine lwp_seq fun K hK => ?_ | ((with_reducible refine gA ?_); apply_assumption -exfalso -symm) | refine gB ?_ | refine gC ?_ | refine gD ?_ | refine gE ?_ | refine gF rfl ?_ | refine gG rfl ?_ | refine gH ?_ | refine gI ?_ | refine gJ ?_ | refine gK ?_ | refine gL ?_ | refine gM hC rfl ⟨⟩ ?_ | refine gM hC rfl (by exact sd) ?_
              simp only [e2]
              (refine lwp_cond hC rfl (by first | exact ⟨⟩ | exact sd) (fun hb => ?_) (fun hb => ?_) <;> (try simp only [decide_eq_true_eq, decide_eq_false_iff_not, Bool.not_eq_true', Bool.not_eq_false', ne_eq, Decidable.not_not] at hb))
              · have hkl : k < (R j).length := by omega
                repeat first | refine lwp_seq fun K hK => ?_ | ((with_reducible refine gA ?_); apply_assumption -exfalso -symm) | refine gB ?_ | refine gC ?_ | refine gD ?_ | refine gE ?_ | refine gF rfl ?_ | refine gG rfl ?_ | refine gH ?_ | refine gI ?_ | refine gJ ?_ | refine gK ?_ | refine gL ?_ | refine gM hC rfl ⟨⟩ ?_ | refine gM hC rfl (by exact sd) ?_
                (refine lwp_region hC ⟨[], [], [(7, CheckRange_i ((R j).getD k 0) (-1) 999999999)]⟩ (told1 _ (by rw [hP]; exact (calls_cons (CheckRange_s _ _ _) calls_nil))) rfl ?_ ?_; rotate_left 1)
                · repeat first | refine lwp_seq fun K hK => ?_ | ((with_reducible refine gA ?_); apply_assumption -exfalso -symm) | refine gB ?_ | refine gC ?_ | refine gD ?_ | refine gE ?_ | refine gF rfl ?_ | refine gG rfl ?_ | refine gH ?_ | refine gI ?_ | refine gJ ?_ | refine gK ?_ | refine gL ?_ | refine gM hC rfl ⟨⟩ ?_ | refine gM hC rfl (by exact sd) ?_
                  (refine lwp_cond hC rfl (by first | exact ⟨⟩ | exact sd) (fun hb => ?_) (fun hb => ?_) <;> (try simp only [decide_eq_true_eq, decide_eq_false_iff_not, Bool.not_eq_true', Bool.not_eq_false', ne_eq, Decidable.not_not] at hb))
                  · have hout : outB ((R j).getD k 0) = true := by
                      cases q : outB ((R j).getD k 0) with
                      | true => rfl
                      | false =>
                        have := outB_no.1 q
                        unfold withinS at hb
                        rw [if_neg (by omega)] at hb
                        exact absurd rfl hb
                    have hw : withinS ((R j).getD k 0) (-1) 999999999 = 3 := by
                      unfold withinS at hb ⊢
                      split at hb
                      · rename_i h; rw [if_pos h]
                      · exact absurd rfl hb
                    have hE : ctS m s i R = 3 := ctS_range hns HL.out hjn hkl hout
                    repeat first | refine lwp_seq fun K hK => ?_ | ((with_reducible refine gA ?_); apply_assumption -exfalso -symm) | refine gB ?_ | refine gC ?_ | refine gD ?_ | refine gE ?_ | refine gF rfl ?_ | refine gG rfl ?_ | refine gH ?_ | refine gI ?_ | refine gJ ?_ | refine gK ?_ | refine gL ?_ | refine gM hC rfl ⟨⟩ ?_ | refine gM hC rfl (by exact sd) ?_
                    (refine end_intro (by first | exact .inr rfl | exact .inl rfl) [(0, some 0), (1, some 1), (2, some 2), (3, some 3)] rfl ?_)
                    rw [hE, hw]
                    exact sd
                  · have hno : outB ((R j).getD k 0) = false := by
                      refine outB_no.2 ?_
                      unfold withinS at hb
                      split at hb
                      · cases hb
                      · omega
                    repeat first | refine lwp_seq fun K hK => ?_ | ((with_reducible refine gA ?_); apply_assumption -exfalso -symm) | refine gB ?_ | refine gC ?_ | refine gD ?_ | refine gE ?_ | refine gF rfl ?_ | refine gG rfl ?_ | refine gH ?_ | refine gI ?_ | refine gJ ?_ | refine gK ?_ | refine gL ?_ | refine gM hC rfl ⟨⟩ ?_ | refine gM hC rfl (by exact sd) ?_
                    refine gA ⟨k + 1, ?_, ?_, sub_intro hm [(0, some 0), (1, some 1), (2, some 2), (3, some 3), (4, some 4)] rfl ?_⟩
                    · exact ⟨by omega, fun e he => by rcases Nat.lt_succ_iff_lt_or_eq.1 he with h | rfl; exact hke e h; exact hno⟩
                    · omega
                    · exact sd
                · simp only [e2, e3]
                  exact sd
              · obtain rfl : k = (R j).length := by omega
                repeat first | refine lwp_seq fun K hK => ?_ | ((with_reducible refine gA ?_); apply_assumption -exfalso -symm) | refine gB ?_ | refine gC ?_ | refine gD ?_ | refine gE ?_ | refine gF rfl ?_ | refine gG rfl ?_ | refine gH ?_ | refine gI ?_ | refine gJ ?_ | refine gK ?_ | refine gL ?_ | refine gM hC rfl ⟨⟩ ?_ | refine gM hC rfl (by exact sd) ?_
                refine gA ⟨j + 1, ?_, ?_, sub_intro hm [(0, some 0), (1, some 1), (2, some 2), (3, some 3), (4, some 4)] rfl ?_⟩
                · exact ⟨by omega, fun e he => by rcases Nat.lt_succ_iff_lt_or_eq.1 he with h | rfl; exact HJE.out e h; exact hke⟩
                · omega
                · exact sd
          · obtain rfl : j = i := by omega
            have hE : ctS m s j R = 0 := ctS_good hns HL.out HJE.out
            repeat first | refine lwp_seq fun K hK => ?_ | ((with_reducible refine gA ?_); apply_assumption -exfalso -symm) | refine gB ?_ | refine gC ?_ | refine gD ?_ | refine gE ?_ | refine gF rfl ?_ | refine gG rfl ?_ | refine gH ?_ | refine gI ?_ | refine gJ ?_ | refine gK ?_ | refine gL ?_ | refine gM hC rfl ⟨⟩ ?_ | refine gM hC rfl (by exact sd) ?_
            (refine end_intro (by first | exact .inr rfl | exact .inl rfl) [(0, some 0), (1, some 1), (2, some 2), (3, some 3)] rfl ?_)
            rw [hE]
            exact sd

/-- The bound of a table, as the reference finds it. -/
def rbK (s : List Th) (c : Cs) (R : Nat → List Int) (i : Nat) (v : Int) : Nat → Int
  | 0 => v
  | k + 1 => if (R i).getD k 0 ≥ 0 then (if (R i).getD k 0 + c.missed * (s.length - 1 - i) < rbK s c R i v k then (R i).getD k 0 + c.missed * (s.length - 1 - i) else rbK s c R i v k) else rbK s c R i v k
def rbI (s : List Th) (c : Cs) (R : Nat → List Int) : Nat → Int
  | 0 => c.missed * s.length
  | i + 1 => rbK s c R i (rbI s c R i) (R i).length
def RBound_i (m s : List Th) (c : Cs) (n : Nat) (R : Nat → List Int) (σ : Ren) : Inst := { f := 28, hin := tabIn m s n R, args := [rdA m s, csA c, .sl 3 n], hout := [], ret := i64 (rbI s c R n), σ := σ }
set_option maxRecDepth 20000 in
set_option maxHeartbeats 4000000 in
theorem RBound_s (m s : List Th) (c : Cs) (n : Nat) (R : Nat → List Int) (σ : Ren) (hc : csOk c) (hl : m.length ≤ 64 ∧ s.length ≤ 64) (ht : TabOk m s n R) : (RBound_i m s c n R σ).ok Tryz.prog := by
  have hns := ht.hn
  have hlen := ht.hlen
  have k0 := mul_small (b := (s.length : Int)) hc.1 (by omega)
  have HT := Lib.hid ht
  clear ht
  unfold RBound_i Inst.ok; dsimp only; refine spec_of_body (tys := tys) 4 Tryz.func28 (by kernel_rfl) rfl tys_ok rfl (Nat.le_of_ble_eq_true rfl) (fun _ _ h => (by cases h)) fun F hP hm hC hrd => ?_; conv => whnf
  repeat first | refine lwp_seq fun K hK => ?_ | ((with_reducible refine gA ?_); apply_assumption -exfalso -symm) | refine gB ?_ | refine gC ?_ | refine gD ?_ | refine gE ?_ | refine gF rfl ?_ | refine gG rfl ?_ | refine gH ?_ | refine gI ?_ | refine gJ ?_ | refine gK ?_ | refine gL ?_ | refine gM hC rfl ⟨⟩ ?_ | refine gM hC rfl (by exact sd) ?_
  rw [show c.missed * (s.length : Int) = rbI s c R 0 from rfl]
  refine lwp_loop (fun i : Nat => ⟨[(8, i64 i), (7, i64 (rbI s c R i)), (2, .sl 3 n), (3, .ptr 4 0 0 0), (4, .ptr 5 0 0 0)], [(0, .ro m.length 2 (thC m)), (1, .ro s.length 2 (thC s)), (2, roF n R), (3, roT 2 n R), (4, .blk 25 [.sl 0 m.length, .sl 1 s.length]), (5, .blk 27 [i64 c.missed, i64 c.unseen, i64 c.stretch])], 6⟩) (fun i => i ≤ n) (fun i => n - i) 0 ⟨?_, sub_intro hm [(0, some 0), (1, some 1), (2, some 2), (3, some 3), (4, some 4), (5, some 5)] rfl ?_⟩ ?_
  · exact Nat.zero_le _
  · exact sd
  · rintro i hi
    have e1 : (i : Int).toNat = i := Int.toNat_natCast i
    repeat first | refine lwp_seq fun K hK => ?_ | ((with_reducible refine gA ?_); apply_assumption -exfalso -symm) | refine gB ?_ | refine gC ?_ | refine gD ?_ | refine gE ?_ | refine gF rfl ?_ | refine gG rfl ?_ | refine gH ?_ | refine gI ?_ | refine gJ ?_ | refine gK ?_ | refine gL ?_ | refine gM hC rfl ⟨⟩ ?_ | refine gM hC rfl (by exact sd) ?_
    (refine lwp_cond hC rfl (by first | exact ⟨⟩ | exact sd) (fun hb => ?_) (fun hb => ?_) <;> (try simp only [decide_eq_true_eq, decide_eq_false_iff_not, Bool.not_eq_true', Bool.not_eq_false', ne_eq, Decidable.not_not] at hb))
    · have hin : i < n := by omega
      have hil := hlen i hin
      have hin2 : rbI s c R (i + 1) = rbK s c R i (rbI s c R i) (R i).length := rfl
      have hrg := HT.out.hrg i hin
      have k2 := mul_small (b := (s.length : Int) - 1 - i) hc.1 (by omega)
      obtain ⟨v, hv⟩ : ∃ v, rbI s c R i = v := ⟨_, rfl⟩
      rw [hv] at hin2 ⊢
      have HIN := Lib.hid hin2
      have HRG := Lib.hid hrg
      clear hin2 hv hrg
      rw [show v = rbK s c R i v 0 from rfl]
      repeat first | refine lwp_seq fun K hK => ?_ | ((with_reducible refine gA ?_); apply_assumption -exfalso -symm) | refine gB ?_ | refine gC ?_ | refine gD ?_ | refine gE ?_ | refine gF rfl ?_ | refine gG rfl ?_ | refine gH ?_ | refine gI ?_ | refine gJ ?_ | refine gK ?_ | refine gL ?_ | refine gM hC rfl ⟨⟩ ?_ | refine gM hC rfl (by exact sd) ?_
      refine lwp_loop (fun k : Nat => ⟨[(9, i64 k), (8, i64 i), (7, i64 (rbK s c R i v k)), (2, .sl 3 n), (3, .ptr 4 0 0 0), (4, .ptr 5 0 0 0)], [(0, .ro m.length 2 (thC m)), (1, .ro s.length 2 (thC s)), (2, roF n R), (3, roT 2 n R), (4, .blk 25 [.sl 0 m.length, .sl 1 s.length]), (5, .blk 27 [i64 c.missed, i64 c.unseen, i64 c.stretch])], 6⟩) (fun k => k ≤ (R i).length) (fun k => (R i).length - k) 0 ⟨?_, sub_intro hm [(0, some 0), (1, some 1), (2, some 2), (3, some 3), (4, some 4), (5, some 5)] rfl ?_⟩ ?_
      · exact Nat.zero_le _
      · exact sd
      · rintro k hk
        have e2 : (k : Int).toNat = k := Int.toNat_natCast k
        repeat first | refine lwp_seq fun K hK => ?_ | ((with_reducible refine gA ?_); apply_assumption -exfalso -symm) | refine gB ?_ | refine gC ?_ | refine gD ?_ | refine gE ?_ | refine gF rfl ?_ | refine gG rfl ?_ | refine gH ?_ | refine gI ?_ | refine gJ ?_ | refine gK ?_ | refine gL ?_ | refine gM hC rfl ⟨⟩ ?_ | refine gM hC rfl (by exact sd) ?_
        simp only [e1]
        (refine lwp_cond hC rfl (by first | exact ⟨⟩ | exact sd) (fun hb => ?_) (fun hb => ?_) <;> (try simp only [decide_eq_true_eq, decide_eq_false_iff_not, Bool.not_eq_true', Bool.not_eq_false', ne_eq, Decidable.not_not] at hb))
        · have hkl : k < (R i).length := by omega
          have hst : rbK s c R i v (k + 1) = if (R i).getD k 0 ≥ 0 then (if (R i).getD k 0 + c.missed * (s.length - 1 - i) < rbK s c R i v k then (R i).getD k 0 + c.missed * (s.length - 1 - i) else rbK s c R i v k) else rbK s c R i v k := rfl
          have hx := HRG.out k
          obtain ⟨u, hu⟩ : ∃ u, rbK s c R i v k = u := ⟨_, rfl⟩
          rw [hu] at hst ⊢
          have HST := Lib.hid hst
          clear hst hu
          repeat first | refine lwp_seq fun K hK => ?_ | ((with_reducible refine gA ?_); apply_assumption -exfalso -symm) | refine gB ?_ | refine gC ?_ | refine gD ?_ | refine gE ?_ | refine gF rfl ?_ | refine gG rfl ?_ | refine gH ?_ | refine gI ?_ | refine gJ ?_ | refine gK ?_ | refine gL ?_ | refine gM hC rfl ⟨⟩ ?_ | refine gM hC rfl (by exact sd) ?_
          simp only [e1, e2]
          (refine lwp_cond hC rfl (by first | exact ⟨⟩ | exact sd) (fun hb => ?_) (fun hb => ?_) <;> (try simp only [decide_eq_true_eq, decide_eq_false_iff_not, Bool.not_eq_true', Bool.not_eq_false', ne_eq, Decidable.not_not] at hb))
          · have hst2 : rbK s c R i v (k + 1) = (if (R i).getD k 0 + c.missed * (s.length - 1 - i) < u then (R i).getD k 0 + c.missed * (s.length - 1 - i) else u) := by rw [HST.out, if_pos hb]
            have HS2 := Lib.hid hst2
            clear hst2
            (refine lwp_drawn2 hC (by rw [hP]; exact mixed) ⟨[], [], []⟩ (told0 _ _) [0, 0, 0, 6, 14, 0, 62, 126, 0, 256, 0, 1024, 3072, 7168, 0, 31744, 65280, 131070, 262143, 524287] 19 0 rfl ?_ ?_; rotate_left 1)
            · simp only [e1, e2]
              repeat first | refine lwp_seq fun K hK => ?_ | ((with_reducible refine gA ?_); apply_assumption -exfalso -symm) | refine gB ?_ | refine gC ?_ | refine gD ?_ | refine gE ?_ | refine gF rfl ?_ | refine gG rfl ?_ | refine gH ?_ | refine gI ?_ | refine gJ ?_ | refine gK ?_ | refine gL ?_ | refine gM hC rfl ⟨⟩ ?_ | refine gM hC rfl (by exact sd) ?_
              refine gA ⟨k + 1, ?_, ?_, sub_intro hm [(0, some 0), (1, some 1), (2, some 2), (3, some 3), (4, some 4), (5, some 5)] rfl ?_⟩
              · omega
              · omega
              · rw [HS2.out]
                exact sd
            · simp only [e1, e2]
              exact sd
          · have hst2 : rbK s c R i v (k + 1) = u := by rw [HST.out, if_neg hb]
            repeat first | refine lwp_seq fun K hK => ?_ | ((with_reducible refine gA ?_); apply_assumption -exfalso -symm) | refine gB ?_ | refine gC ?_ | refine gD ?_ | refine gE ?_ | refine gF rfl ?_ | refine gG rfl ?_ | refine gH ?_ | refine gI ?_ | refine gJ ?_ | refine gK ?_ | refine gL ?_ | refine gM hC rfl ⟨⟩ ?_ | refine gM hC rfl (by exact sd) ?_
            refine gA ⟨k + 1, ?_, ?_, sub_intro hm [(0, some 0), (1, some 1), (2, some 2), (3, some 3), (4, some 4), (5, some 5)] rfl ?_⟩
            · omega
            · omega
            · rw [hst2]
              exact sd
        · obtain rfl : k = (R i).length := by omega
          repeat first | refine lwp_seq fun K hK => ?_ | ((with_reducible refine gA ?_); apply_assumption -exfalso -symm) | refine gB ?_ | refine gC ?_ | refine gD ?_ | refine gE ?_ | refine gF rfl ?_ | refine gG rfl ?_ | refine gH ?_ | refine gI ?_ | refine gJ ?_ | refine gK ?_ | refine gL ?_ | refine gM hC rfl ⟨⟩ ?_ | refine gM hC rfl (by exact sd) ?_
          refine gA ⟨i + 1, ?_, ?_, sub_intro hm [(0, some 0), (1, some 1), (2, some 2), (3, some 3), (4, some 4), (5, some 5)] rfl ?_⟩
          · omega
          · omega
          · rw [HIN.out]
            exact sd
    · obtain rfl : i = n := by omega
      repeat first | refine lwp_seq fun K hK => ?_ | ((with_reducible refine gA ?_); apply_assumption -exfalso -symm) | refine gB ?_ | refine gC ?_ | refine gD ?_ | refine gE ?_ | refine gF rfl ?_ | refine gG rfl ?_ | refine gH ?_ | refine gI ?_ | refine gJ ?_ | refine gK ?_ | refine gL ?_ | refine gM hC rfl ⟨⟩ ?_ | refine gM hC rfl (by exact sd) ?_
      (refine end_intro (by first | exact .inr rfl | exact .inl rfl) [(0, some 0), (1, some 1), (2, some 2), (3, some 3)] rfl ?_)
      exact sd

end Go.Proofs.YtfmnfagcbehmdaaGreatDoor
