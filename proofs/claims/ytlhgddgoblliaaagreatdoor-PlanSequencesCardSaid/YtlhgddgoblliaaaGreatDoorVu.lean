/- Chapter 9: the search for a sequence, the reference's. -/
import Derived.Test.YtlhgddgoblliaaaGreatDoorVt
set_option linter.unusedVariables false
set_option linter.unusedSimpArgs false
namespace Go.Proofs.YtlhgddgoblliaaaGreatDoor
open Go.RowKit Go.Sym

def rcS (l : List Jb) (H : List Int) (hi : Int) (D : List Int) : Int := if (D.length : Int) ≠ l.length then 2 else csX l H hi D
def rcIn (l : List Jb) (H D : List Int) : List (Nat × Chunk) := [(0, jbCh l 1), (1, fmCh l), (2, .ro H.length 1 (.ints .i64 H)), (3, .ro D.length 1 (.ints .i64 D))]
def RCs_i (l : List Jb) (H : List Int) (lo hi : Int) (D : List Int) (σ : Ren) : Inst := { f := 18, hin := rcIn l H D, args := [.sl 0 l.length, .sl 2 H.length, .agg [i64 lo, i64 hi], .sl 3 D.length], hout := [], ret := i64 (rcS l H hi D), σ := σ }
set_option maxRecDepth 20000 in
set_option maxHeartbeats 8000000 in
theorem RCs_s (l : List Jb) (H : List Int) (lo hi : Int) (D : List Int) (σ : Ren) (hk : Knw l) (hl : l.length ≤ 1000) (hln : ∀ k, lnJ l k ≤ 1000) (hH : H.length ≤ 1000) (hD : D.length ≤ 1000) : (RCs_i l H lo hi D σ).ok Tryz.prog := by
  have HK := Lib.hid hk
  clear hk
  unfold RCs_i rcIn Inst.ok; dsimp only; refine spec_of_body (tys := tys) 4 Tryz.func18 (by kernel_rfl) rfl tys_ok rfl (Nat.le_of_ble_eq_true rfl) (fun _ _ h => (by cases h)) fun F hP hm hC hrd => ?_; conv => whnf
  repeat first | refine lwp_seq fun K hK => ?_ | (with_reducible refine gA ?_; apply_assumption -exfalso -symm) | refine Stp.h ?_ | refine gF rfl ?_ | refine gG rfl ?_ | refine gM hC rfl sd ?_
  refine lwp_condS hC rfl sd ?_ ?_ <;> intro hb
  · have e : rcS l H hi D = 2 := if_pos hb
    clear hb
    repeat first | refine lwp_seq fun K hK => ?_ | (with_reducible refine gA ?_; apply_assumption -exfalso -symm) | refine Stp.h ?_ | refine gF rfl ?_ | refine gG rfl ?_ | refine gM hC rfl sd ?_
    (refine end_intro (by first | exact .inr rfl | exact .inl rfl) [] rfl ?_)
    rw [e]
    exact ⟨rfl, trivial⟩
  · have hDl : D.length = l.length := by omega
    have e : rcS l H hi D = csX l H hi D := if_neg (fun h => h hb)
    have HE := Lib.hid e
    clear hb e
    repeat first | refine lwp_seq fun K hK => ?_ | (with_reducible refine gA ?_; apply_assumption -exfalso -symm) | refine Stp.h ?_ | refine gF rfl ?_ | refine gG rfl ?_ | refine gM hC rfl sd ?_
    refine lwp_loop (fun k : Nat => ⟨[(9, i64 k), (0, .sl 0 l.length), (1, .sl 2 H.length), (3, .sl 3 l.length), (6, .ptr 4 0 0 0)], [(4, .blk 25 [i64 lo, i64 hi]), (0, jbCh l 1), (1, fmCh l), (2, .ro H.length 1 (.ints .i64 H)), (3, .ro l.length 1 (.ints .i64 D))], 5⟩) (fun k => k ≤ l.length ∧ ∀ q : Nat, q < k → dyB H.length (D.getD q 0) = false) (fun k => l.length - k) 0 ⟨?_, sub_intro hm [(0, some 0), (1, some 1), (2, some 2), (3, some 3), (4, some 4)] rfl ?_⟩ ?_
    · exact ⟨Nat.zero_le _, fun q hq => absurd hq (Nat.not_lt_zero _)⟩
    · rw [hDl]
      exact sd
    · rintro k ⟨hk, hf⟩
      have hkk : ((k : Int)).toNat = k := Int.toNat_natCast k
      have HF := Lib.hid hf
      clear hf
      repeat first | refine lwp_seq fun K hK => ?_ | (with_reducible refine gA ?_; apply_assumption -exfalso -symm) | refine Stp.h ?_ | refine gF rfl ?_ | refine gG rfl ?_ | refine gM hC rfl sd ?_
      refine lwp_condS hC rfl sd ?_ ?_ <;> intro hb
      · have hk2 : k < l.length := by omega
        have hdy : (bif decide (D.getD k 0 < 0) then true else decide ((H.length : Int) ≤ D.getD k 0)) = dyB H.length (D.getD k 0) := rfl
        clear hb
        repeat first | refine lwp_seq fun K hK => ?_ | (with_reducible refine gA ?_; apply_assumption -exfalso -symm) | refine Stp.h ?_ | refine gF rfl ?_ | refine gG rfl ?_
        (refine lwp_region hC ⟨[], [], []⟩ (told0 _ _) rfl ?_ ?_; rotate_left 1)
        · rw [hkk, hdy]
          repeat first | refine lwp_seq fun K hK => ?_ | (with_reducible refine gA ?_; apply_assumption -exfalso -symm) | refine Stp.h ?_ | refine gF rfl ?_ | refine gG rfl ?_ | refine gM hC rfl sd ?_
          refine lwp_condS hC rfl sd ?_ ?_ <;> intro hb
          · have e : csX l H hi D = 10 := if_pos (any_on (d := 0) (by omega) hb)
            clear hb
            repeat first | refine lwp_seq fun K hK => ?_ | (with_reducible refine gA ?_; apply_assumption -exfalso -symm) | refine Stp.h ?_ | refine gF rfl ?_ | refine gG rfl ?_ | refine gM hC rfl sd ?_
            (refine end_intro (by first | exact .inr rfl | exact .inl rfl) [] rfl ?_)
            rw [HE.out, e]
            exact ⟨rfl, trivial⟩
          · have hne : dyB H.length (D.getD k 0) = false := by simpa using hb
            have HN := Lib.hid hne
            clear hb hne
            repeat first | refine lwp_seq fun K hK => ?_ | (with_reducible refine gA ?_; apply_assumption -exfalso -symm) | refine Stp.h ?_ | refine gF rfl ?_ | refine gG rfl ?_ | refine gM hC rfl sd ?_
            refine gA ⟨k + 1, ?_, ?_, sub_intro hm [(0, some 0), (1, some 1), (2, some 2), (3, some 3), (4, some 4)] rfl ?_⟩
            · refine ⟨hk2, fun q hq => ?_⟩
              by_cases e : q = k
              · subst e; exact HN.out
              · exact HF.out q (by omega)
            · omega
            · exact sd
        · rw [hkk]
          obtain ⟨c, hce⟩ : ∃ c, decide (D.getD k 0 < 0) = c := ⟨_, rfl⟩
          rw [hce]
          cases c <;> (simp [AllL, All, cd_p, cp_p, cv_p, -List.getD_eq_getElem?_getD]; try omega)
      · obtain rfl : k = l.length := by omega
        have hA := any_getD (p := dyB H.length) (l := D) (d := 0) (by rw [hDl]; exact HF.out)
        have hX : csX l H hi D = firstS ((List.range l.length).map (ckS l H hi D)) := if_neg (by rw [hA]; decide)
        have hat := fun i (hi : i < l.length) => dyB_false (HF.out i hi)
        have HAT := Lib.hid hat
        have HX := Lib.hid hX
        clear hb hA hX hat
        repeat first | refine lwp_seq fun K hK => ?_ | (with_reducible refine gA ?_; apply_assumption -exfalso -symm) | refine Stp.h ?_ | refine gF rfl ?_ | refine gG rfl ?_ | refine gM hC rfl sd ?_
        refine lwp_loop (fun k : Nat => ⟨[(10, i64 k), (0, .sl 0 l.length), (1, .sl 2 H.length), (3, .sl 3 l.length), (6, .ptr 4 0 0 0)], [(4, .blk 25 [i64 lo, i64 hi]), (0, jbCh l 1), (1, fmCh l), (2, .ro H.length 1 (.ints .i64 H)), (3, .ro l.length 1 (.ints .i64 D))], 5⟩) (fun i => i ≤ l.length ∧ csX l H hi D = firstS (((List.range l.length).map (ckS l H hi D)).drop i)) (fun k => l.length - k) 0 ⟨?_, sub_intro hm [(0, some 0), (1, some 1), (2, some 2), (3, some 3), (4, some 4)] rfl ?_⟩ ?_
        · exact ⟨Nat.zero_le _, HX.out⟩
        · exact sd
        · rintro i ⟨hi1, hf⟩
          repeat first | refine lwp_seq fun K hK => ?_ | (with_reducible refine gA ?_; apply_assumption -exfalso -symm) | refine Stp.h ?_ | refine gF rfl ?_ | refine gG rfl ?_ | refine gM hC rfl sd ?_
          refine lwp_condS hC rfl sd ?_ ?_ <;> intro hb
          · have hi2 : i < l.length := by omega
            rw [firstR_drop _ _ _ hi2] at hf
            have hwr := RWr_s l H lo hi D i [(0, some 0), (1, some 1), (2, some 2), (3, some 3)] HK.out hi2 hl (hln i) hDl (HAT.out i hi2)
            unfold RWr_i at hwr
            obtain ⟨c, hc⟩ : ∃ c, ckS l H hi D i = c := ⟨_, rfl⟩
            rw [hc] at hwr hf
            have HF := Lib.hid hf
            have HWR := Lib.hid hwr
            clear hb hf hwr hc
            repeat first | refine lwp_seq fun K hK => ?_ | (with_reducible refine gA ?_; apply_assumption -exfalso -symm) | refine Stp.h ?_ | refine gF rfl ?_ | refine gG rfl ?_ | refine gM hC rfl sd ?_
            (refine lwp_region hC ⟨[], [], [(5, { f := 70, hin := wrIn l H D, args := [.sl 0 l.length, .sl 2 H.length, .agg [i64 lo, i64 hi], .sl 3 l.length, i64 i], hout := [], ret := i64 c, σ := [(0, some 0), (1, some 1), (2, some 2), (3, some 3)] })]⟩ (told1 _ (by rw [hP]; exact (calls_cons (HWR.out) calls_nil))) rfl ?_ ?_; rotate_left 1)
            · repeat first | refine lwp_seq fun K hK => ?_ | (with_reducible refine gA ?_; apply_assumption -exfalso -symm) | refine Stp.h ?_ | refine gF rfl ?_ | refine gG rfl ?_ | refine gM hC rfl sd ?_
              refine lwp_condS hC rfl sd ?_ ?_ <;> intro hb
              · have hX := HF.out
                rw [if_neg hb] at hX
                clear hb
                repeat first | refine lwp_seq fun K hK => ?_ | (with_reducible refine gA ?_; apply_assumption -exfalso -symm) | refine Stp.h ?_ | refine gF rfl ?_ | refine gG rfl ?_ | refine gM hC rfl sd ?_
                (refine end_intro (by first | exact .inr rfl | exact .inl rfl) [] rfl ?_)
                rw [HE.out, hX]
                exact ⟨rfl, trivial⟩
              · have hX := HF.out
                rw [if_pos hb] at hX
                have HN := Lib.hid hX
                clear hb hX
                repeat first | refine lwp_seq fun K hK => ?_ | (with_reducible refine gA ?_; apply_assumption -exfalso -symm) | refine Stp.h ?_ | refine gF rfl ?_ | refine gG rfl ?_ | refine gM hC rfl sd ?_
                refine gA ⟨i + 1, ?_, ?_, sub_intro hm [(0, some 0), (1, some 1), (2, some 2), (3, some 3), (4, some 4)] rfl ?_⟩
                · exact ⟨hi2, HN.out⟩
                · omega
                · exact sd
            · exact sd
          · obtain rfl : i = l.length := by omega
            rw [firstR_all] at hf
            clear hb
            repeat first | refine lwp_seq fun K hK => ?_ | (with_reducible refine gA ?_; apply_assumption -exfalso -symm) | refine Stp.h ?_ | refine gF rfl ?_ | refine gG rfl ?_ | refine gM hC rfl sd ?_
            (refine end_intro (by first | exact .inr rfl | exact .inl rfl) [] rfl ?_)
            rw [HE.out, hf]
            exact ⟨rfl, trivial⟩

/-! All days given. -/
def RS0_i (l : List Jb) (H : List Int) (lo hi : Int) (pre : List Int) (e : Nat) (σ : Ren) : Inst := { f := 69, hin := wrIn l H pre, args := [.sl 0 l.length, .sl 2 H.length, .agg [i64 lo, i64 hi], .sl 3 l.length, i64 e], hout := [], ret := .tup [.sl 3 l.length, bl (decide (csX l H hi pre = 0))], σ := σ }
set_option maxRecDepth 20000 in
set_option maxHeartbeats 8000000 in
theorem RS0_s (l : List Jb) (H : List Int) (lo hi : Int) (pre : List Int) (e : Nat) (σ : Ren) (hk : Knw l) (hl : l.length ≤ 1000) (hln : ∀ k, lnJ l k ≤ 1000) (hH : H.length ≤ 1000) (hp : pre.length = l.length) : (RS0_i l H lo hi pre e σ).ok Tryz.prog := by
  have hcs := RCs_s l H lo hi pre [(0, some 0), (1, some 1), (2, some 2), (3, some 3)] hk hl hln hH (by omega)
  have e1 : rcS l H hi pre = csX l H hi pre := if_neg (by omega)
  unfold RCs_i rcIn at hcs
  rw [e1, hp] at hcs
  have HC := Lib.hid hcs
  clear hcs e1 hk
  unfold RS0_i wrIn Inst.ok; dsimp only; refine spec_of_body (tys := tys) 4 Tryz.func69 (by kernel_rfl) rfl tys_ok rfl (Nat.le_of_ble_eq_true rfl) (fun _ _ h => (by cases h)) fun F hP hm hC hrd => ?_; conv => whnf
  repeat first | refine lwp_seq fun K hK => ?_ | (with_reducible refine gA ?_; apply_assumption -exfalso -symm) | refine Stp.h ?_ | refine gF rfl ?_ | refine gG rfl ?_ | refine gM hC rfl sd ?_
  refine lwp_condS hC rfl sd ?_ ?_ <;> intro hb
  · clear hb
    repeat first | refine lwp_seq fun K hK => ?_ | (with_reducible refine gA ?_; apply_assumption -exfalso -symm) | refine Stp.h ?_ | refine gF rfl ?_ | refine gG rfl ?_ | refine gM hC rfl sd ?_
    (refine lwp_region hC ⟨[], [], [(5, { f := 18, hin := [(0, jbCh l 1), (1, fmCh l), (2, .ro H.length 1 (.ints .i64 H)), (3, .ro l.length 1 (.ints .i64 pre))], args := [.sl 0 l.length, .sl 2 H.length, .agg [i64 lo, i64 hi], .sl 3 l.length], hout := [], ret := i64 (csX l H hi pre), σ := [(0, some 0), (1, some 1), (2, some 2), (3, some 3)] })]⟩ (told1 _ (by rw [hP]; exact (calls_cons (HC.out) calls_nil))) rfl ?_ ?_; rotate_left 1)
    · repeat first | refine lwp_seq fun K hK => ?_ | (with_reducible refine gA ?_; apply_assumption -exfalso -symm) | refine Stp.h ?_ | refine gF rfl ?_ | refine gG rfl ?_ | refine gM hC rfl sd ?_
      (refine end_intro (by first | exact .inr rfl | exact .inl rfl) [(3, some 3)] rfl ?_)
      exact sd
    · exact sd
  · omega

end Go.Proofs.YtlhgddgoblliaaaGreatDoor
