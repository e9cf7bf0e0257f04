/- Chapter 9: the best sequence, the reference's. -/
import Derived.Test.YtlhgddgoblliaaaGreatDoorVv
set_option linter.unusedVariables false
set_option linter.unusedSimpArgs false
namespace Go.Proofs.YtlhgddgoblliaaaGreatDoor
open Go.RowKit Go.Sym

theorem csX_nil {l : List Jb} {H : List Int} {hi : Int} (h : l.length = 0) : csX l H hi [] = 0 := by
  unfold csX
  rw [h]
  rfl
/-- No jobs, no days. -/
def RSn_i (l : List Jb) (H : List Int) (lo hi : Int) (e : Nat) (σ : Ren) : Inst := { f := 69, hin := [(0, jbCh l 1), (1, fmCh l), (2, .ro H.length 1 (.ints .i64 H))], args := [.sl 0 l.length, .sl 2 H.length, .agg [i64 lo, i64 hi], .lit (.slice none 0 0), i64 e], hout := [], ret := .tup [.lit (.slice none 0 0), bl true], σ := σ }
set_option maxRecDepth 20000 in
theorem RSn_s (l : List Jb) (H : List Int) (lo hi : Int) (e : Nat) (σ : Ren) (h0 : l.length = 0) (hk : Knw l) (hln : ∀ k, lnJ l k ≤ 1000) (hH : H.length ≤ 1000) : (RSn_i l H lo hi e σ).ok Tryz.prog := by
  have hcs := RCs_s l H lo hi [] [(0, some 0), (1, some 1), (2, some 2), (3, none)] hk (by omega) hln hH (by simp)
  have e1 : rcS l H hi [] = 0 := by
    unfold rcS
    rw [if_neg (by simp [h0]), csX_nil h0]
  unfold RCs_i rcIn at hcs
  rw [e1] at hcs
  have HC := Lib.hid hcs
  clear hcs e1 hk
  unfold RSn_i Inst.ok; dsimp only; refine spec_of_body (tys := tys) 3 Tryz.func69 (by kernel_rfl) rfl tys_ok rfl (Nat.le_of_ble_eq_true rfl) (fun _ _ h => (by cases h)) fun F hP hm hC hrd => ?_; conv => whnf
  repeat first | refine lwp_seq fun K hK => ?_ | (with_reducible refine gA ?_; apply_assumption -exfalso -symm) | refine Stp.h ?_ | refine gF rfl ?_ | refine gG rfl ?_ | refine gM hC rfl sd ?_
  refine lwp_condS hC rfl sd ?_ ?_ <;> intro hb
  · clear hb
    repeat first | refine lwp_seq fun K hK => ?_ | (with_reducible refine gA ?_; apply_assumption -exfalso -symm) | refine Stp.h ?_ | refine gF rfl ?_ | refine gG rfl ?_ | refine gM hC rfl sd ?_
    (refine lwp_region hC ⟨[], [], [(5, { f := 18, hin := [(0, jbCh l 1), (1, fmCh l), (2, .ro H.length 1 (.ints .i64 H)), (3, .ro ([] : List Int).length 1 (.ints .i64 []))], args := [.sl 0 l.length, .sl 2 H.length, .agg [i64 lo, i64 hi], .sl 3 ([] : List Int).length], hout := [], ret := i64 0, σ := [(0, some 0), (1, some 1), (2, some 2), (3, none)] })]⟩ (told1 _ (by rw [hP]; exact (calls_cons (HC.out) calls_nil))) rfl ?_ ?_; rotate_left 1)
    · repeat first | refine lwp_seq fun K hK => ?_ | (with_reducible refine gA ?_; apply_assumption -exfalso -symm) | refine Stp.h ?_ | refine gF rfl ?_ | refine gG rfl ?_ | refine gM hC rfl sd ?_
      (refine end_intro (by first | exact .inr rfl | exact .inl rfl) [] rfl ?_)
      exact sd
    · exact sd
  · omega

def rqB (l : List Jb) (H : List Int) (hi : Int) (k : Nat) : Option (List Int) := rsF l H hi (k + 1) l.length []
def rqF (l : List Jb) (H : List Int) (hi : Int) : Option (List Int) := tryF (rqB l H hi) H.length
def rqR (l : List Jb) (H : List Int) (hi : Int) : List Int × Int := match rqF l H hi with | some x => (x, 0) | none => ([], 18)
def rqIn (l : List Jb) (H : List Int) : List (Nat × Chunk) := [(0, jbCh l 1), (1, fmCh l), (2, .ro H.length 1 (.ints .i64 H))]
def RSd_i (l : List Jb) (H : List Int) (lo hi : Int) (σ : Ren) : Inst := { f := 17, hin := rqIn l H, args := [.sl 0 l.length, .sl 2 H.length, .agg [i64 lo, i64 hi]], hout := [(3, .row 3 (rqR l H hi).1.length 1 (.ints .i64 (rqR l H hi).1))], ret := .tup [.sl 3 (rqR l H hi).1.length, i64 (rqR l H hi).2], σ := σ }
set_option maxRecDepth 20000 in
set_option maxHeartbeats 8000000 in
theorem RSd_s (l : List Jb) (H : List Int) (lo hi : Int) (σ : Ren) (hk : Knw l) (hl : l.length ≤ 1000) (hln : ∀ k, lnJ l k ≤ 1000) (hH : H.length ≤ 1000) : (RSd_i l H lo hi σ).ok Tryz.prog := by
  have er : rqR l H hi = (match rqF l H hi with | some x => (x, 0) | none => ([], 18)) := rfl
  unfold RSd_i
  obtain ⟨R, hR⟩ : ∃ R, rqR l H hi = R := ⟨_, rfl⟩
  rw [hR] at er ⊢
  have HER := Lib.hid er
  have HK := Lib.hid hk
  clear er hR hk
  unfold rqIn Inst.ok; dsimp only; refine spec_of_body (tys := tys) 3 Tryz.func17 (by kernel_rfl) rfl tys_ok rfl (Nat.le_of_ble_eq_true rfl) (fun _ _ h => (by cases h)) fun F hP hm hC hrd => ?_; conv => whnf
  repeat first | refine lwp_seq fun K hK => ?_ | (with_reducible refine gA ?_; apply_assumption -exfalso -symm) | refine Stp.h ?_ | refine gF rfl ?_ | refine gG rfl ?_ | refine gM hC rfl sd ?_
  refine lwp_loop (fun k : Nat => ⟨[(8, i64 ((k + 1 : Nat) : Int)), (0, .sl 0 l.length), (1, .sl 2 H.length), (5, .ptr 3 0 0 0)], [(3, .blk 25 [i64 lo, i64 hi]), (0, jbCh l 1), (1, fmCh l), (2, .ro H.length 1 (.ints .i64 H))], 4⟩) (fun k => k ≤ H.length ∧ ∀ i, i < k → rqB l H hi i = none) (fun k => H.length - k) 0 ⟨?_, sub_intro hm [(0, some 0), (1, some 1), (2, some 2), (3, some 3)] rfl ?_⟩ ?_
  · exact ⟨Nat.zero_le _, fun i hi => absurd hi (Nat.not_lt_zero _)⟩
  · exact sd
  · rintro k ⟨hk, hf⟩
    have HF := Lib.hid hf
    clear hf
    repeat first | refine lwp_seq fun K hK => ?_ | (with_reducible refine gA ?_; apply_assumption -exfalso -symm) | refine Stp.h ?_ | refine gF rfl ?_ | refine gG rfl ?_ | refine gM hC rfl sd ?_
    refine lwp_condS hC rfl sd ?_ ?_ <;> intro hb
    · have hk2 : k < H.length := by omega
      clear hb
      rcases Nat.eq_zero_or_pos l.length with h0 | h0
      · have hb0 : rqB l H hi k = some [] := by
          unfold rqB
          rw [h0]
          show (if csX l H hi [] = 0 then some [] else none) = some ([] : List Int)
          rw [if_pos (csX_nil h0)]
        have hS : rqF l H hi = some [] := tryF_hit hb0 HF.out hk2
        have e := HER.out
        rw [hS] at e
        dsimp only at e
        subst e
        clear hb0 hS
        repeat first | refine lwp_seq fun K hK => ?_ | (with_reducible refine gA ?_; apply_assumption -exfalso -symm) | refine Stp.h ?_ | refine gF rfl ?_ | refine gG rfl ?_ | refine gM hC rfl sd ?_
        (refine lwp_region hC ⟨[], [], [(4, RSn_i l H lo hi (k + 1) [(0, some 0), (1, some 1), (2, some 2)])]⟩ (told1 _ (by rw [hP]; exact (calls_cons (RSn_s _ _ _ _ _ _ h0 HK.out hln hH) calls_nil))) rfl ?_ ?_; rotate_left 1)
        · repeat first | refine lwp_seq fun K hK => ?_ | (with_reducible refine gA ?_; apply_assumption -exfalso -symm) | refine Stp.h ?_ | refine gF rfl ?_ | refine gG rfl ?_ | refine gM hC rfl sd ?_
          refine lwp_condS hC rfl sd ?_ ?_ <;> intro hb
          · clear hb
            repeat first | refine lwp_seq fun K hK => ?_ | (with_reducible refine gA ?_; apply_assumption -exfalso -symm) | refine Stp.h ?_ | refine gF rfl ?_ | refine gG rfl ?_ | refine gM hC rfl sd ?_
            (refine end_intro (by first | exact .inr rfl | exact .inl rfl) [(3, none)] rfl ?_)
            exact sd
          · simp at hb
        · exact sd
      · obtain ⟨n, hn⟩ : ∃ n, l.length = n + 1 := ⟨l.length - 1, by omega⟩
        have hrs := RSs_s l H lo hi (k + 1) HK.out hl hln hH (by omega) n [] [(0, some 0), (1, some 1), (2, some 2), (3, none)] (by simp; omega)
        have hrb : rqB l H hi k = rsF l H hi (k + 1) (n + 1) [] := by unfold rqB; rw [hn]
        unfold RSs_i rsD at hrs
        rw [← hrb] at hrs
        obtain ⟨x, hx⟩ : ∃ x, rqB l H hi k = x := ⟨_, rfl⟩
        rw [hx] at hrs
        have HRS := Lib.hid hrs
        have HX := Lib.hid hx
        clear hrs hrb hx
        cases x with
        | none =>
          repeat first | refine lwp_seq fun K hK => ?_ | (with_reducible refine gA ?_; apply_assumption -exfalso -symm) | refine Stp.h ?_ | refine gF rfl ?_ | refine gG rfl ?_ | refine gM hC rfl sd ?_
          (refine lwp_region hC ⟨[], [], [(4, { f := 69, hin := rcIn l H [], args := [.sl 0 l.length, .sl 2 H.length, .agg [i64 lo, i64 hi], .sl 3 ([] : List Int).length, i64 ((k + 1 : Nat) : Int)], hout := [(4, .row 3 ([] : List Int).length 1 (.ints .i64 []))], ret := .tup [.sl 4 ([] : List Int).length, bl false], σ := [(0, some 0), (1, some 1), (2, some 2), (3, none)] })]⟩ (told1 _ (by rw [hP]; exact (calls_cons (HRS.out) calls_nil))) rfl ?_ ?_; rotate_left 1)
          · repeat first | refine lwp_seq fun K hK => ?_ | (with_reducible refine gA ?_; apply_assumption -exfalso -symm) | refine Stp.h ?_ | refine gF rfl ?_ | refine gG rfl ?_ | refine gM hC rfl sd ?_
            refine lwp_condS hC rfl sd ?_ ?_ <;> intro hb
            · simp at hb
            · clear hb
              repeat first | refine lwp_seq fun K hK => ?_ | (with_reducible refine gA ?_; apply_assumption -exfalso -symm) | refine Stp.h ?_ | refine gF rfl ?_ | refine gG rfl ?_ | refine gM hC rfl sd ?_
              refine gA ⟨k + 1, ?_, ?_, sub_intro hm [(0, some 0), (1, some 1), (2, some 2), (3, some 3)] rfl ?_⟩
              · refine ⟨hk2, fun i hi => ?_⟩
                by_cases e : i = k
                · subst e; exact HX.out
                · exact HF.out i (by omega)
              · omega
              · exact sd
          · exact sd
        | some y =>
          have hS : rqF l H hi = some y := tryF_hit HX.out HF.out hk2
          have e := HER.out
          rw [hS] at e
          dsimp only at e
          subst e
          clear hS
          repeat first | refine lwp_seq fun K hK => ?_ | (with_reducible refine gA ?_; apply_assumption -exfalso -symm) | refine Stp.h ?_ | refine gF rfl ?_ | refine gG rfl ?_ | refine gM hC rfl sd ?_
          (refine lwp_region hC ⟨[], [], [(4, { f := 69, hin := rcIn l H [], args := [.sl 0 l.length, .sl 2 H.length, .agg [i64 lo, i64 hi], .sl 3 ([] : List Int).length, i64 ((k + 1 : Nat) : Int)], hout := [(4, .row 3 y.length 1 (.ints .i64 y))], ret := .tup [.sl 4 y.length, bl true], σ := [(0, some 0), (1, some 1), (2, some 2), (3, none)] })]⟩ (told1 _ (by rw [hP]; exact (calls_cons (HRS.out) calls_nil))) rfl ?_ ?_; rotate_left 1)
          · repeat first | refine lwp_seq fun K hK => ?_ | (with_reducible refine gA ?_; apply_assumption -exfalso -symm) | refine Stp.h ?_ | refine gF rfl ?_ | refine gG rfl ?_ | refine gM hC rfl sd ?_
            refine lwp_condS hC rfl sd ?_ ?_ <;> intro hb
            · clear hb
              repeat first | refine lwp_seq fun K hK => ?_ | (with_reducible refine gA ?_; apply_assumption -exfalso -symm) | refine Stp.h ?_ | refine gF rfl ?_ | refine gG rfl ?_ | refine gM hC rfl sd ?_
              (refine end_intro (by first | exact .inr rfl | exact .inl rfl) [(3, some 5)] rfl ?_)
              exact sd
            · simp at hb
          · exact sd
    · obtain rfl : k = H.length := by omega
      have hS : rqF l H hi = none := tryF_none HF.out
      have e := HER.out
      rw [hS] at e
      dsimp only at e
      subst e
      clear hb hS
      repeat first | refine lwp_seq fun K hK => ?_ | (with_reducible refine gA ?_; apply_assumption -exfalso -symm) | refine Stp.h ?_ | refine gF rfl ?_ | refine gG rfl ?_ | refine gM hC rfl sd ?_
      (refine end_intro (by first | exact .inr rfl | exact .inl rfl) [(3, none)] rfl ?_)
      exact sd

end Go.Proofs.YtlhgddgoblliaaaGreatDoor
