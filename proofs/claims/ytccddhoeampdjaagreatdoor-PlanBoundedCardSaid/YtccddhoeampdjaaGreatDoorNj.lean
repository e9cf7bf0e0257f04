/- Chapter 9: offices told back; prices of quarters. -/
import Derived.Test.YtccddhoeampdjaaGreatDoorNi
import Derived.Test.YtccddhoeampdjaaGreatDoorPe
import Derived.Test.YtccddhoeampdjaaGreatDoorOc
set_option linter.unusedVariables false
set_option linter.unusedSimpArgs false
namespace Go.Proofs.YtccddhoeampdjaaGreatDoor
open Go.RowKit Go.Sym

def Tld_i (m : List Sec) (s : List Shf) (σ : Ren) : Inst := { f := 68, hin := offIn m s, args := [ofA m s], hout := [(2, .row 130 m.length 5 (secC m)), (3, .row 133 s.length 4 (shfC s))], ret := .agg [.sl 2 m.length, .sl 3 s.length], σ := σ }
set_option maxRecDepth 20000 in
set_option maxHeartbeats 4000000 in
theorem Tld_s (m : List Sec) (s : List Shf) (σ : Ren) (hm' : m.length ≤ 1000000) (hs : s.length ≤ 1000000) : (Tld_i m s σ).ok Tryz.prog := by
  unfold Tld_i Inst.ok; dsimp only; refine spec_of_body (tys := tys) 2 Tryz.func68 (by kernel_rfl) rfl tys_ok rfl (Nat.le_of_ble_eq_true rfl) (fun _ _ h => (by cases h)) fun F hP hm hC hrd => ?_; conv => whnf
  repeat first | refine lwp_seq fun K hK => ?_ | (with_reducible refine gA ?_; apply_assumption -exfalso -symm) | refine Stp.h ?_ | refine gF rfl ?_ | refine gG rfl ?_ | refine gM hC rfl sd ?_
  refine lwp_loop (fun k : Nat => ⟨[(11, i64 k), (10, i64 m.length), (9, .sl 0 m.length), (1, .ptr 2 0 0 0), (2, .ptr 3 0 0 0), (3, .ptr 4 0 0 0)], [(5, .row 130 k 5 (secC (m.take k))), (4, .blk 25 [.sl 5 k, .lit (.slice none 0 0)]), (3, .blk 25 [.lit (.slice none 0 0), .lit (.slice none 0 0)]), (2, .blk 37 [.sl 0 m.length, .sl 1 s.length]), (0, .ro m.length 5 (secC m)), (1, .ro s.length 4 (shfC s))], 6⟩) (fun k => k ≤ m.length) (fun k => m.length - k) 0 ⟨?_, sub_intro hm [(0, some 0), (1, some 1), (2, some 2), (3, some 3), (4, some 4), (5, none)] rfl ?_⟩ ?_
  · exact Nat.zero_le _
  · exact sd
  · rintro k hk
    repeat first | refine lwp_seq fun K hK => ?_ | (with_reducible refine gA ?_; apply_assumption -exfalso -symm) | refine Stp.h ?_ | refine gF rfl ?_ | refine gG rfl ?_ | refine gM hC rfl sd ?_
    refine lwp_condS hC rfl sd ?_ ?_ <;> intro hb
    · repeat first | refine lwp_seq fun K hK => ?_ | (with_reducible refine gA ?_; apply_assumption -exfalso -symm) | refine Stp.h ?_ | refine gF rfl ?_ | refine gG rfl ?_ | refine gM hC rfl sd ?_
      rw [Int.toNat_natCast]
      refine gA ⟨k + 1, ?_, ?_, sub_intro hm [(0, some 0), (1, some 1), (2, some 2), (3, some 3), (4, some 4), (5, some 9)] rfl ?_⟩
      · omega
      · omega
      · have e2 : (secC (m.take (k + 1))).cells = (catC (secC (m.take k)) (Cont.exp [.lit (.string (m.getD k secD).name), i64 (m.getD k secD).dl, i64 (m.getD k secD).wk, i64 (m.getD k secD).bl, i64 (m.getD k secD).vl])).cells := by
          rw [take_snoc m secD k (by omega), secC_snoc, catC_cells]; rfl
        exact sd
    · obtain rfl : k = m.length := by omega
      rw [List.take_of_length_le (Nat.le_refl _)]
      repeat first | refine lwp_seq fun K hK => ?_ | (with_reducible refine gA ?_; apply_assumption -exfalso -symm) | refine Stp.h ?_ | refine gF rfl ?_ | refine gG rfl ?_ | refine gM hC rfl sd ?_
      refine lwp_loop (fun k : Nat => ⟨[(25, i64 k), (24, i64 s.length), (23, .sl 1 s.length), (1, .ptr 2 0 0 0), (2, .ptr 3 0 0 0), (3, .ptr 4 0 0 0)], [(6, .row 133 k 4 (shfC (s.take k))), (5, .row 130 m.length 5 (secC m)), (4, .blk 25 [.sl 5 m.length, .sl 6 k]), (3, .blk 25 [.lit (.slice none 0 0), .lit (.slice none 0 0)]), (2, .blk 37 [.sl 0 m.length, .sl 1 s.length]), (0, .ro m.length 5 (secC m)), (1, .ro s.length 4 (shfC s))], 7⟩) (fun k => k ≤ s.length) (fun k => s.length - k) 0 ⟨?_, sub_intro hm [(0, some 0), (1, some 1), (2, some 2), (3, some 3), (4, some 4), (5, some 5), (6, none)] rfl ?_⟩ ?_
      · exact Nat.zero_le _
      · exact sd
      · rintro k hk
        repeat first | refine lwp_seq fun K hK => ?_ | (with_reducible refine gA ?_; apply_assumption -exfalso -symm) | refine Stp.h ?_ | refine gF rfl ?_ | refine gG rfl ?_ | refine gM hC rfl sd ?_
        refine lwp_condS hC rfl sd ?_ ?_ <;> intro hb
        · repeat first | refine lwp_seq fun K hK => ?_ | (with_reducible refine gA ?_; apply_assumption -exfalso -symm) | refine Stp.h ?_ | refine gF rfl ?_ | refine gG rfl ?_ | refine gM hC rfl sd ?_
          rw [Int.toNat_natCast]
          refine gA ⟨k + 1, ?_, ?_, sub_intro hm [(0, some 0), (1, some 1), (2, some 2), (3, some 3), (4, some 4), (5, some 5), (6, some 10)] rfl ?_⟩
          · omega
          · omega
          · have e2 : (shfC (s.take (k + 1))).cells = (catC (shfC (s.take k)) (Cont.exp [i64 (s.getD k shfD).day, i64 (s.getD k shfD).hr, i64 (s.getD k shfD).bl, i64 (s.getD k shfD).rt])).cells := by
              rw [take_snoc s shfD k (by omega), shfC_snoc, catC_cells]; rfl
            exact sd
        · repeat first | refine lwp_seq fun K hK => ?_ | (with_reducible refine gA ?_; apply_assumption -exfalso -symm) | refine Stp.h ?_ | refine gF rfl ?_ | refine gG rfl ?_ | refine gM hC rfl sd ?_
          (refine end_intro (by first | exact .inr rfl | exact .inl rfl) [(2, some 5), (3, some 6)] rfl ?_)
          obtain rfl : k = s.length := by omega
          rw [List.take_of_length_le (Nat.le_refl _)]
          exact sd

/-! Prices of quarters. -/
def lowZ (n : Int) : Z2 := ⟨rtN n 4, rtD n 4⟩
theorem lowZ_nat : ∀ n : Nat, n < 256 → priceS (lowZ n).x (lowZ n).y = 0 ∧ bigB (lowZ n) = false := by decide +kernel
theorem lowZ_ok {n : Int} (h : 0 ≤ n ∧ n ≤ 255) : priceS (lowZ n).x (lowZ n).y = 0 ∧ bigB (lowZ n) = false := by
  have := lowZ_nat n.toNat (by omega)
  rwa [Int.toNat_of_nonneg h.1] at this
def prL (Q : List Int) (m : Nat) : List Z2 := (List.range m).map fun k => lowZ (Q.getD (k % 4) 0)
theorem prL_len (Q : List Int) (m : Nat) : (prL Q m).length = m := by simp [prL]
theorem prL_snoc (Q : List Int) (m : Nat) : prL Q (m + 1) = prL Q m ++ [lowZ (Q.getD (m % 4) 0)] := by
  unfold prL; rw [List.range_succ, List.map_append]; rfl
theorem prL_ok {Q : List Int} (hQ : ∀ k, 0 ≤ Q.getD k 0 ∧ Q.getD k 0 ≤ 255) {S : List Sec} {T : List Shf} (h : offE S T = 0) : bndE S T (prL Q T.length) = 0 := by
  have hp : ∀ z ∈ prL Q T.length, priceOf z = 0 ∧ bigB z = false := by
    intro z hz
    obtain ⟨k, _, rfl⟩ := List.mem_map.1 hz
    exact lowZ_ok (hQ _)
  refine (firstS_cons _ _).2 ⟨(firstS_cons _ _).2 ⟨h, (firstS_cons _ _).2 ⟨(whenS_zero (by decide)).2 (decide_eq_false (by rw [prL_len]; exact fun c => c rfl)), rfl⟩⟩, (firstS_cons _ _).2 ⟨?_, (firstS_cons _ _).2 ⟨(whenS_zero (by decide)).2 ?_, rfl⟩⟩⟩
  · have key : ∀ l : List Z2, (∀ z ∈ l, priceOf z = 0 ∧ bigB z = false) → firstS (pricesL l) = 0 := by
      intro l
      induction l with
      | nil => intro _; rfl
      | cons a l ih => intro h; exact (firstS_cons _ _).2 ⟨(h a List.mem_cons_self).1, ih fun z hz => h z (List.mem_cons_of_mem _ hz)⟩
    exact key _ hp
  · rw [List.any_eq_false]
    intro z hz
    rw [(hp z hz).2]; simp
theorem z2C_snoc (l : List Z2) (x : Z2) : (z2C (l ++ [x])).cells = (catC (z2C l) (Cont.exp [i64 x.x, i64 x.y])).cells := by
  rw [catC_cells]; exact genL_snoc (f := z2V) (fun _ => rfl) l x

/-! Another plan, of bytes. -/
def modI (m : Nat) (n : Int) : Int := n.tmod (m + 1) - 1
theorem modI_in (m : Nat) {n : Int} (h : 0 ≤ n ∧ n ≤ 255) : -1 ≤ modI m n ∧ modI m n < m := by
  unfold modI
  rw [Int.tmod_eq_emod_of_nonneg h.1]
  have h1 := Int.emod_nonneg n (show ((m : Int) + 1) ≠ 0 by omega)
  have h2 := Int.emod_lt_of_pos n (show (0 : Int) < (m : Int) + 1 by omega)
  omega

end Go.Proofs.YtccddhoeampdjaaGreatDoor
