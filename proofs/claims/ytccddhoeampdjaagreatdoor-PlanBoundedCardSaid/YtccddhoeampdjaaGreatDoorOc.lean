/- Chapter 9: what the law's package makes of offices; sizes. -/
import Derived.Test.YtccddhoeampdjaaGreatDoorOb
set_option linter.unusedVariables false
set_option linter.unusedSimpArgs false
namespace Go.Proofs.YtccddhoeampdjaaGreatDoor
open Go.RowKit Go.Sym

def Own_i (m : List Sec) (s : List Shf) (σ : Ren) : Inst := { f := 19, hin := offIn m s, args := [ofA m s], hout := [(2, .row 160 m.length 5 (secC m)), (3, .row 174 s.length 4 (shfC s))], ret := .agg [.sl 2 m.length, .sl 3 s.length], σ := σ }
set_option maxRecDepth 20000 in
set_option maxHeartbeats 4000000 in
theorem Own_s (m : List Sec) (s : List Shf) (σ : Ren) (hm' : m.length ≤ 1000000) (hs : s.length ≤ 1000000) : (Own_i m s σ).ok Tryz.prog := by
  unfold Own_i Inst.ok; dsimp only; refine spec_of_body (tys := tys) 2 Tryz.func19 (by kernel_rfl) rfl tys_ok rfl (Nat.le_of_ble_eq_true rfl) (fun _ _ h => (by cases h)) fun F hP hm hC hrd => ?_; conv => whnf
  repeat first | refine lwp_seq fun K hK => ?_ | (with_reducible refine gA ?_; apply_assumption -exfalso -symm) | refine Stp.h ?_ | refine gF rfl ?_ | refine gG rfl ?_ | refine gM hC rfl sd ?_
  refine lwp_loop (fun k : Nat => ⟨[(11, i64 k), (10, i64 m.length), (9, .sl 0 m.length), (1, .ptr 2 0 0 0), (2, .ptr 3 0 0 0), (3, .ptr 4 0 0 0)], [(5, .row 160 k 5 (secC (m.take k))), (4, .blk 37 [.sl 5 k, .lit (.slice none 0 0)]), (3, .blk 37 [.lit (.slice none 0 0), .lit (.slice none 0 0)]), (2, .blk 25 [.sl 0 m.length, .sl 1 s.length]), (0, .ro m.length 5 (secC m)), (1, .ro s.length 4 (shfC s))], 6⟩) (fun k => k ≤ m.length) (fun k => m.length - k) 0 ⟨?_, sub_intro hm [(0, some 0), (1, some 1), (2, some 2), (3, some 3), (4, some 4), (5, none)] rfl ?_⟩ ?_
  · exact Nat.zero_le _
  · exact sd
  · rintro k hk
    repeat first | refine lwp_seq fun K hK => ?_ | (with_reducible refine gA ?_; apply_assumption -exfalso -symm) | refine Stp.h ?_ | refine gF rfl ?_ | refine gG rfl ?_ | refine gM hC rfl sd ?_
    refine lwp_condS hC rfl sd ?_ ?_ <;> intro hb
    · repeat first | refine lwp_seq fun K hK => ?_ | (with_reducible refine gA ?_; apply_assumption -exfalso -symm) | refine Stp.h ?_ | refine gF rfl ?_ | refine gG rfl ?_ | refine gM hC rfl sd ?_
      rw [Int.toNat_natCast]
      refine gA ⟨k + 1, ?_, ?_, sub_intro hm [(0, some 0), (1, some 1), (2, some 2), (3, some 3), (4, some 4), (5, some 9)] rfl ?_⟩
      · omega
      · omega
      · have e2 : (secC (m.take (k + 1))).cells = (catC (secC (m.take k)) (Cont.exp [.lit (.string (m.getD k secD).name), i64 (m.getD k secD).dl, i64 (m.getD k secD).wk, i64 (m.getD k secD).bl, i64 (m.getD k secD).vl])).cells := by
          rw [take_snoc m secD k (by omega), secC_snoc, catC_cells]; rfl
        exact sd
    · obtain rfl : k = m.length := by omega
      rw [List.take_of_length_le (Nat.le_refl _)]
      repeat first | refine lwp_seq fun K hK => ?_ | (with_reducible refine gA ?_; apply_assumption -exfalso -symm) | refine Stp.h ?_ | refine gF rfl ?_ | refine gG rfl ?_ | refine gM hC rfl sd ?_
      refine lwp_loop (fun k : Nat => ⟨[(25, i64 k), (24, i64 s.length), (23, .sl 1 s.length), (1, .ptr 2 0 0 0), (2, .ptr 3 0 0 0), (3, .ptr 4 0 0 0)], [(6, .row 174 k 4 (shfC (s.take k))), (5, .row 160 m.length 5 (secC m)), (4, .blk 37 [.sl 5 m.length, .sl 6 k]), (3, .blk 37 [.lit (.slice none 0 0), .lit (.slice none 0 0)]), (2, .blk 25 [.sl 0 m.length, .sl 1 s.length]), (0, .ro m.length 5 (secC m)), (1, .ro s.length 4 (shfC s))], 7⟩) (fun k => k ≤ s.length) (fun k => s.length - k) 0 ⟨?_, sub_intro hm [(0, some 0), (1, some 1), (2, some 2), (3, some 3), (4, some 4), (5, some 5), (6, none)] rfl ?_⟩ ?_
      · exact Nat.zero_le _
      · exact sd
      · rintro k hk
        repeat first | refine lwp_seq fun K hK => ?_ | (with_reducible refine gA ?_; apply_assumption -exfalso -symm) | refine Stp.h ?_ | refine gF rfl ?_ | refine gG rfl ?_ | refine gM hC rfl sd ?_
        refine lwp_condS hC rfl sd ?_ ?_ <;> intro hb
        · repeat first | refine lwp_seq fun K hK => ?_ | (with_reducible refine gA ?_; apply_assumption -exfalso -symm) | refine Stp.h ?_ | refine gF rfl ?_ | refine gG rfl ?_ | refine gM hC rfl sd ?_
          rw [Int.toNat_natCast]
          refine gA ⟨k + 1, ?_, ?_, sub_intro hm [(0, some 0), (1, some 1), (2, some 2), (3, some 3), (4, some 4), (5, some 5), (6, some 10)] rfl ?_⟩
          · omega
          · omega
          · have e2 : (shfC (s.take (k + 1))).cells = (catC (shfC (s.take k)) (Cont.exp [i64 (s.getD k shfD).day, i64 (s.getD k shfD).hr, i64 (s.getD k shfD).bl, i64 (s.getD k shfD).rt])).cells := by
              rw [take_snoc s shfD k (by omega), shfC_snoc, catC_cells]; rfl
            exact sd
        · repeat first | refine lwp_seq fun K hK => ?_ | (with_reducible refine gA ?_; apply_assumption -exfalso -symm) | refine Stp.h ?_ | refine gF rfl ?_ | refine gG rfl ?_ | refine gM hC rfl sd ?_
          (refine end_intro (by first | exact .inr rfl | exact .inl rfl) [(2, some 5), (3, some 6)] rfl ?_)
          obtain rfl : k = s.length := by omega
          rw [List.take_of_length_le (Nat.le_refl _)]
          exact sd

def namesS (l : List Sec) : Bool := l.all fun t => decide (t.name.size ≤ 40)
theorem namesS_drop (l : List Sec) (k : Nat) (h : k < l.length) : namesS (l.drop k) = (decide ((l.getD k secD).name.size ≤ 40) && namesS (l.drop (k + 1))) := by
  rw [List.drop_eq_getElem_cons h]
  simp only [namesS, List.all_cons, List.getD_eq_getElem?_getD, List.getElem?_eq_getElem h, Option.getD_some]
theorem namesB_of {S : List Sec} (h : namesS S = true) : namesB S := by
  intro k hk
  have := List.all_eq_true.1 h _ (List.getElem_mem hk)
  have := of_decide_eq_true this
  rw [List.getD_eq_getElem?_getD, List.getElem?_eq_getElem hk, Option.getD_some]
  omega
def lenO (n m : Nat) : Bool := bif (bif decide ((n : Int) ≤ 5) then true else decide ((n : Int) = 8)) then (bif decide ((m : Int) ≤ 3) then true else decide ((m : Int) = 6)) else false
def shortO (S : List Sec) (T : List Shf) : Bool := namesS S && lenO S.length T.length
theorem shortO_len {S : List Sec} {T : List Shf} (h : shortO S T = true) : namesB S ∧ S.length ≤ 8 ∧ T.length ≤ 6 := by
  unfold shortO lenO at h
  simp only [Bool.and_eq_true] at h
  refine ⟨namesB_of h.1, ?_⟩
  have h2 := h.2
  by_cases q1 : (S.length : Int) ≤ 5 <;> by_cases q2 : (S.length : Int) = 8 <;> by_cases q3 : (T.length : Int) ≤ 3 <;> by_cases q4 : (T.length : Int) = 6 <;> simp [q1, q2, q3, q4] at h2 <;> omega
def ShortO_i (S : List Sec) (T : List Shf) (σ : Ren) : Inst := { f := 16, hin := offIn S T, args := [ofA S T], hout := [], ret := bl (shortO S T), σ := σ }
set_option maxRecDepth 20000 in
set_option maxHeartbeats 4000000 in
theorem ShortO_s (S : List Sec) (T : List Shf) (σ : Ren) (hS : S.length ≤ 9223372036854775807) (hT : T.length ≤ 9223372036854775807) : (ShortO_i S T σ).ok Tryz.prog := by
  unfold ShortO_i Inst.ok; dsimp only; refine spec_of_body (tys := tys) 2 Tryz.func16 (by kernel_rfl) rfl tys_ok rfl (Nat.le_of_ble_eq_true rfl) (fun _ _ h => (by cases h)) fun F hP hm hC hrd => ?_; conv => whnf
  repeat first | refine lwp_seq fun K hK => ?_ | (with_reducible refine gA ?_; apply_assumption -exfalso -symm) | refine Stp.h ?_ | refine gF rfl ?_ | refine gG rfl ?_ | refine gM hC rfl sd ?_
  refine lwp_loop (fun k : Nat => ⟨[(3, i64 k), (1, .ptr 2 0 0 0)], [(2, .blk 25 [.sl 0 S.length, .sl 1 T.length]), (0, .ro S.length 5 (secC S)), (1, .ro T.length 4 (shfC T))], 3⟩) (fun k => k ≤ S.length ∧ namesS S = namesS (S.drop k)) (fun k => S.length - k) 0 ⟨?_, sub_intro hm [(0, some 0), (1, some 1), (2, some 2)] rfl ?_⟩ ?_
  · exact ⟨Nat.zero_le _, rfl⟩
  · exact sd
  · rintro k ⟨hk, hf⟩
    repeat first | refine lwp_seq fun K hK => ?_ | (with_reducible refine gA ?_; apply_assumption -exfalso -symm) | refine Stp.h ?_ | refine gF rfl ?_ | refine gG rfl ?_ | refine gM hC rfl sd ?_
    refine lwp_condS hC rfl sd ?_ ?_ <;> intro hb
    · have hkm : k < S.length := by omega
      have hD := namesS_drop S k hkm
      repeat first | refine lwp_seq fun K hK => ?_ | (with_reducible refine gA ?_; apply_assumption -exfalso -symm) | refine Stp.h ?_ | refine gF rfl ?_ | refine gG rfl ?_ | refine gM hC rfl sd ?_
      refine lwp_condS hC rfl sd ?_ ?_ <;> intro hb
      · rw [Int.toNat_natCast] at hb
        repeat first | refine lwp_seq fun K hK => ?_ | (with_reducible refine gA ?_; apply_assumption -exfalso -symm) | refine Stp.h ?_ | refine gF rfl ?_ | refine gG rfl ?_ | refine gM hC rfl sd ?_
        (refine end_intro (by first | exact .inr rfl | exact .inl rfl) [] rfl ?_)
        refine ⟨?_, trivial⟩
        show shortO S T = false
        unfold shortO
        rw [hf, hD, decide_eq_false (by omega)]
        rfl
      · rw [Int.toNat_natCast] at hb
        repeat first | refine lwp_seq fun K hK => ?_ | (with_reducible refine gA ?_; apply_assumption -exfalso -symm) | refine Stp.h ?_ | refine gF rfl ?_ | refine gG rfl ?_ | refine gM hC rfl sd ?_
        refine gA ⟨k + 1, ?_, ?_, sub_intro hm [(0, some 0), (1, some 1), (2, some 2)] rfl ?_⟩
        · exact ⟨by omega, by rw [hf, hD, decide_eq_true (by omega)]; rfl⟩
        · omega
        · exact sd
    · have hM : namesS S = true := by rw [hf, List.drop_of_length_le (by omega)]; rfl
      have eS : shortO S T = lenO S.length T.length := by unfold shortO; rw [hM]; rfl
      clear hf
      repeat first | refine lwp_seq fun K hK => ?_ | (with_reducible refine gA ?_; apply_assumption -exfalso -symm) | refine Stp.h ?_ | refine gF rfl ?_ | refine gG rfl ?_ | refine gM hC rfl sd ?_
      all_goals first | exact sd | skip
      (refine end_intro (by first | exact .inr rfl | exact .inl rfl) [] rfl ?_)
      refine ⟨?_, trivial⟩
      show shortO S T = _
      rw [eS]
      rfl

end Go.Proofs.YtccddhoeampdjaaGreatDoor
