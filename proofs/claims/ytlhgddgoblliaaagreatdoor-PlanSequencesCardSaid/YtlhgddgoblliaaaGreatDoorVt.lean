/- Chapter 9: the check of a sequence, the reference's. -/
import Derived.Test.YtlhgddgoblliaaaGreatDoorVs
set_option linter.unusedVariables false
set_option linter.unusedSimpArgs false
namespace Go.Proofs.YtlhgddgoblliaaaGreatDoor
open Go.RowKit Go.Sym

/-- The names that jobs need are jobs'. -/
def Knw (l : List Jb) : Prop := ∀ i, i < l.length → ∀ q, q < lnJ l i → fnd l (afJ l i q) = ixV (nmJ l) (afJ l i q) ∧ 0 ≤ fnd l (afJ l i q) ∧ fnd l (afJ l i q) < l.length
theorem knw_of {l : List Jb} (h : jobsE l = 0) : Knw l := fun i hi q hq => by
  unfold jobsE at h
  split at h
  · cases h
  · have h4 := (firstS_cons _ _).1 h
    have h5 := (firstS_cons _ _).1 h4.2
    have h6 := firstR_zero h5.1 i hi
    have h7 : afE (nmJ l) (l.getD i jbD).af = 0 := h6
    have h8 := firstR_zero h7 q hq
    have h9 := ((firstS_cons _ _).1 h8).1
    have h10 := (whenS_zero (by decide)).1 h9
    have : memS (nmJ l) (afJ l i q) = true := by
      cases e : memS (nmJ l) (afJ l i q) with
      | true => rfl
      | false => rw [show (l.getD i jbD).af.getD q ByteArray.empty = afJ l i q from rfl, e] at h10; cases h10
    exact (fnd_is (l := l) (s := afJ l i q)).1 this
theorem any_getD {α : Type} {p : α → Bool} {l : List α} {d : α} (h : ∀ i, i < l.length → p (l.getD i d) = false) : l.any p = false := by
  rw [List.any_eq_false]
  intro x hx
  obtain ⟨i, hi, rfl⟩ := List.getElem_of_mem hx
  have := h i hi
  rw [List.getD_eq_getElem?_getD, List.getElem?_eq_getElem hi] at this
  have this : p l[i] = false := this
  rw [this]; decide
theorem any_on {α : Type} {p : α → Bool} {l : List α} {d : α} {i : Nat} (hi : i < l.length) (h : p (l.getD i d) = true) : l.any p = true := by
  rw [List.any_eq_true]
  rw [List.getD_eq_getElem?_getD, List.getElem?_eq_getElem hi] at h
  exact ⟨l[i], List.getElem_mem hi, h⟩
theorem twR_on {l : List Jb} {D : List Int} {i k n : Nat} (hk : k < n) (h : twB l D i k = true) : twR l D i n = true := List.any_eq_true.2 ⟨k, List.mem_range.2 hk, h⟩
theorem ckS_a {l : List Jb} {H : List Int} {hi : Int} {D : List Int} {i : Nat} (h : (l.getD i jbD).af.any (erV (nmJ l) D (dyD D i)) = true) : ckS l H hi D i = 11 := by
  unfold ckS; rw [h]; rfl
theorem ckS_b {l : List Jb} {H : List Int} {hi : Int} {D : List Int} {i : Nat} (h : (l.getD i jbD).af.any (erV (nmJ l) D (dyD D i)) = false) (h2 : twR l D i i = true) : ckS l H hi D i = 9 := by
  unfold ckS; rw [h, h2]; rfl
theorem ckS_c {l : List Jb} {H : List Int} {hi : Int} {D : List Int} {i : Nat} (h : (l.getD i jbD).af.any (erV (nmJ l) D (dyD D i)) = false) (h2 : twR l D i i = false) : ckS l H hi D i = if hotB l H hi D i = true then 30 else 0 := by
  unfold ckS; rw [h, h2]; cases hotB l H hi D i <;> rfl
def wrIn (l : List Jb) (H D : List Int) : List (Nat × Chunk) := [(0, jbCh l 1), (1, fmCh l), (2, .ro H.length 1 (.ints .i64 H)), (3, .ro l.length 1 (.ints .i64 D))]
def RWr_i (l : List Jb) (H : List Int) (lo hi : Int) (D : List Int) (i : Nat) (σ : Ren) : Inst := { f := 70, hin := wrIn l H D, args := [.sl 0 l.length, .sl 2 H.length, .agg [i64 lo, i64 hi], .sl 3 l.length, i64 i], hout := [], ret := i64 (ckS l H hi D i), σ := σ }
set_option maxRecDepth 20000 in
set_option maxHeartbeats 8000000 in
theorem RWr_s (l : List Jb) (H : List Int) (lo hi : Int) (D : List Int) (i : Nat) (σ : Ren) (hk : Knw l) (hi2 : i < l.length) (hl : l.length ≤ 1000) (hln : lnJ l i ≤ 1000) (hD : D.length = l.length) (hd : 0 ≤ dyD D i ∧ dyD D i < H.length) : (RWr_i l H lo hi D i σ).ok Tryz.prog := by
  have hii : ((i : Int)).toNat = i := Int.toNat_natCast i
  have hkn := hk i hi2
  have HK := Lib.hid hkn
  clear hkn hk
  unfold RWr_i wrIn Inst.ok; dsimp only; refine spec_of_body (tys := tys) 4 Tryz.func70 (by kernel_rfl) rfl tys_ok rfl (Nat.le_of_ble_eq_true rfl) (fun _ _ h => (by cases h)) fun F hP hm hC hrd => ?_; conv => whnf
  repeat first | refine lwp_seq fun K hK => ?_ | (with_reducible refine gA ?_; apply_assumption -exfalso -symm) | refine Stp.h ?_ | refine gF rfl ?_ | refine gG rfl ?_ | refine gM hC rfl sd ?_
  refine lwp_loop (fun k : Nat => ⟨[(11, i64 k), (0, .sl 0 l.length), (1, .sl 2 H.length), (3, .sl 3 l.length), (4, i64 i), (7, .ptr 4 0 0 0)], [(4, .blk 25 [i64 lo, i64 hi]), (0, jbCh l 1), (1, fmCh l), (2, .ro H.length 1 (.ints .i64 H)), (3, .ro l.length 1 (.ints .i64 D))], 5⟩) (fun k => k ≤ lnJ l i ∧ ∀ q : Nat, q < k → erV (nmJ l) D (dyD D i) (afJ l i q) = false) (fun k => lnJ l i - k) 0 ⟨?_, sub_intro hm [(0, some 0), (1, some 1), (2, some 2), (3, some 3), (4, some 4)] rfl ?_⟩ ?_
  · exact ⟨Nat.zero_le _, fun q hq => absurd hq (Nat.not_lt_zero _)⟩
  · exact sd
  · rintro k ⟨hk, hf⟩
    have hkk : ((k : Int)).toNat = k := Int.toNat_natCast k
    have HF := Lib.hid hf
    clear hf
    repeat first | refine lwp_seq fun K hK => ?_ | (with_reducible refine gA ?_; apply_assumption -exfalso -symm) | refine Stp.h ?_ | refine gF rfl ?_ | refine gG rfl ?_
    (refine lwp_region hC ⟨[], [], []⟩ (told0 _ _) rfl ?_ ?_; rotate_left 1)
    · rw [hii]
      repeat first | refine lwp_seq fun K hK => ?_ | (with_reducible refine gA ?_; apply_assumption -exfalso -symm) | refine Stp.h ?_ | refine gF rfl ?_ | refine gG rfl ?_ | refine gM hC rfl sd ?_
      refine lwp_condS hC rfl sd ?_ ?_ <;> intro hb
      · have hk2 : k < lnJ l i := by omega
        clear hb
        obtain ⟨n1, n2, n3⟩ := HK.out k hk2
        repeat first | refine lwp_seq fun K hK => ?_ | (with_reducible refine gA ?_; apply_assumption -exfalso -symm) | refine Stp.h ?_ | refine gF rfl ?_ | refine gG rfl ?_
        (refine lwp_region hC ⟨[], [], [(9, Fnd_i l (afJ l i k) [(0, some 0), (1, some 1)])]⟩ (told1 _ (by rw [hP]; exact (calls_cons (Fnd_s _ _ _ hl) calls_nil))) rfl ?_ ?_; rotate_left 1)
        · rw [hii, hkk]
          have her : (bif decide (0 ≤ D.getD (fnd l (afJ l i k)).toNat 0) then decide (D.getD i 0 ≤ D.getD (fnd l (afJ l i k)).toNat 0) else false) = erV (nmJ l) D (dyD D i) (afJ l i k) := by
            have h0 := hd.1
            have e : erV (nmJ l) D (dyD D i) (afJ l i k) = decide (D.getD i 0 ≤ D.getD (fnd l (afJ l i k)).toNat 0) := by unfold erV; rw [← n1]
            rw [e]
            have h0 : 0 ≤ D.getD i 0 := h0
            by_cases q1 : D.getD i 0 ≤ D.getD (fnd l (afJ l i k)).toNat 0
            · rw [decide_eq_true q1, decide_eq_true (show 0 ≤ D.getD (fnd l (afJ l i k)).toNat 0 by omega)]; rfl
            · rw [decide_eq_false q1]; cases decide (0 ≤ D.getD (fnd l (afJ l i k)).toNat 0) <;> rfl
          obtain ⟨z, hz⟩ : ∃ z, fnd l (afJ l i k) = z := ⟨_, rfl⟩
          rw [hz] at her n2 n3
          rw [hz]
          have HER := Lib.hid her
          clear her hz n1
          repeat first | refine lwp_seq fun K hK => ?_ | (with_reducible refine gA ?_; apply_assumption -exfalso -symm) | refine Stp.h ?_ | refine gF rfl ?_ | refine gG rfl ?_
          (refine lwp_drawn hC (by rw [hP]; exact mixed) ⟨[], [], []⟩ (told0 _ _) [0, 0, 3, 7, 15, 31, 63, 63, 255, 511, 63, 63, 3135, 7231, 16383, 32767] 14 rfl ?_ ?_; rotate_left 1)
          · rw [hii, HER.out]
            repeat first | refine lwp_seq fun K hK => ?_ | (with_reducible refine gA ?_; apply_assumption -exfalso -symm) | refine Stp.h ?_ | refine gF rfl ?_ | refine gG rfl ?_ | refine gM hC rfl sd ?_
            refine lwp_condS hC rfl sd ?_ ?_ <;> intro hb
            · have e := ckS_a (H := H) (hi := hi) (any_on (d := ByteArray.empty) hk2 hb)
              clear hb
              repeat first | refine lwp_seq fun K hK => ?_ | (with_reducible refine gA ?_; apply_assumption -exfalso -symm) | refine Stp.h ?_ | refine gF rfl ?_ | refine gG rfl ?_ | refine gM hC rfl sd ?_
              (refine end_intro (by first | exact .inr rfl | exact .inl rfl) [] rfl ?_)
              rw [e]
              exact ⟨rfl, trivial⟩
            · have hne : erV (nmJ l) D (dyD D i) (afJ l i k) = false := by simpa using hb
              have HN := Lib.hid hne
              clear hb hne
              repeat first | refine lwp_seq fun K hK => ?_ | (with_reducible refine gA ?_; apply_assumption -exfalso -symm) | refine Stp.h ?_ | refine gF rfl ?_ | refine gG rfl ?_ | refine gM hC rfl sd ?_
              refine gA ⟨k + 1, ?_, ?_, sub_intro hm [(0, some 0), (1, some 1), (2, some 2), (3, some 3), (4, some 4)] rfl ?_⟩
              · refine ⟨hk2, fun q hq => ?_⟩
                by_cases e : q = k
                · subst e; exact HN.out
                · exact HF.out q (by omega)
              · omega
              · exact sd
          · rw [hii]
            obtain ⟨c, hce⟩ : ∃ c, decide (0 ≤ D.getD z.toNat 0) = c := ⟨_, rfl⟩
            rw [hce]
            cases c <;> (simp [AllL, All, cd_p, cp_p, cv_p, -List.getD_eq_getElem?_getD]; try omega)
        · rw [hii, hkk]
          exact sd
      · obtain rfl : k = lnJ l i := by omega
        have hA := any_getD (p := erV (nmJ l) D (dyD D i)) (l := (l.getD i jbD).af) (d := ByteArray.empty) HF.out
        have HA := Lib.hid hA
        clear hb hA
        repeat first | refine lwp_seq fun K hK => ?_ | (with_reducible refine gA ?_; apply_assumption -exfalso -symm) | refine Stp.h ?_ | refine gF rfl ?_ | refine gG rfl ?_ | refine gM hC rfl sd ?_
        refine lwp_loop (fun k : Nat => ⟨[(13, i64 k), (0, .sl 0 l.length), (1, .sl 2 H.length), (3, .sl 3 l.length), (4, i64 i), (7, .ptr 4 0 0 0)], [(4, .blk 25 [i64 lo, i64 hi]), (0, jbCh l 1), (1, fmCh l), (2, .ro H.length 1 (.ints .i64 H)), (3, .ro l.length 1 (.ints .i64 D))], 5⟩) (fun k => k ≤ i ∧ twR l D i k = false) (fun k => i - k) 0 ⟨?_, sub_intro hm [(0, some 0), (1, some 1), (2, some 2), (3, some 3), (4, some 4)] rfl ?_⟩ ?_
        · exact ⟨Nat.zero_le _, rfl⟩
        · exact sd
        · rintro k ⟨hk, hf⟩
          have hkk : ((k : Int)).toNat = k := Int.toNat_natCast k
          have hst := twR_succ l D i k
          rw [hf] at hst
          have HST := Lib.hid hst
          have HF0 := Lib.hid hf
          clear hst hf
          repeat first | refine lwp_seq fun K hK => ?_ | (with_reducible refine gA ?_; apply_assumption -exfalso -symm) | refine Stp.h ?_ | refine gF rfl ?_ | refine gG rfl ?_ | refine gM hC rfl sd ?_
          refine lwp_condS hC rfl sd ?_ ?_ <;> intro hb
          · have hk2 : k < i := by omega
            have htw : (bif bif decide (0 ≤ D.getD k 0) then decide ((l.getD k jbD).kind = (l.getD i jbD).kind) else false then decide (D.getD k 0 = D.getD i 0) else false) = twB l D i k := by
              have h0 : 0 ≤ D.getD i 0 := hd.1
              unfold twB
              by_cases q1 : 0 ≤ D.getD k 0
              · rw [decide_eq_true q1]; rfl
              · rw [decide_eq_false q1, show decide (dyD D k = dyD D i) = false from decide_eq_false (by unfold dyD; omega)]
                cases decide ((l.getD k jbD).kind = (l.getD i jbD).kind) <;> rfl
            have HTW := Lib.hid htw
            clear hb htw
            repeat first | refine lwp_seq fun K hK => ?_ | (with_reducible refine gA ?_; apply_assumption -exfalso -symm) | refine Stp.h ?_ | refine gF rfl ?_ | refine gG rfl ?_ | refine gM hC rfl sd ?_
            (refine lwp_drawn2 hC (by rw [hP]; exact mixed) ⟨[], [], []⟩ (told0 _ _) [0, 0, 3, 7, 15, 31, 63, 63, 255, 511, 1023, 63, 63, 6207, 14399, 30783, 65535, 131071, 262143, 524287, 524287, 2097151, 4194303, 524287, 524287, 25690111, 59244543, 134217727, 268435455] 29 0 rfl ?_ ?_; rotate_left 1)
            · rw [hkk, hii, HTW.out]
              repeat first | refine lwp_seq fun K hK => ?_ | (with_reducible refine gA ?_; apply_assumption -exfalso -symm) | refine Stp.h ?_ | refine gF rfl ?_ | refine gG rfl ?_ | refine gM hC rfl sd ?_
              refine lwp_condS hC rfl sd ?_ ?_ <;> intro hb
              · have e := ckS_b (H := H) (hi := hi) HA.out (twR_on hk2 hb)
                clear hb
                repeat first | refine lwp_seq fun K hK => ?_ | (with_reducible refine gA ?_; apply_assumption -exfalso -symm) | refine Stp.h ?_ | refine gF rfl ?_ | refine gG rfl ?_ | refine gM hC rfl sd ?_
                (refine end_intro (by first | exact .inr rfl | exact .inl rfl) [] rfl ?_)
                rw [e]
                exact ⟨rfl, trivial⟩
              · have hne : twB l D i k = false := by simpa using hb
                have hN := HST.out
                rw [hne] at hN
                have HN := Lib.hid (show twR l D i (k + 1) = false from hN)
                clear hb hne hN
                repeat first | refine lwp_seq fun K hK => ?_ | (with_reducible refine gA ?_; apply_assumption -exfalso -symm) | refine Stp.h ?_ | refine gF rfl ?_ | refine gG rfl ?_ | refine gM hC rfl sd ?_
                refine gA ⟨k + 1, ?_, ?_, sub_intro hm [(0, some 0), (1, some 1), (2, some 2), (3, some 3), (4, some 4)] rfl ?_⟩
                · exact ⟨hk2, HN.out⟩
                · omega
                · exact sd
            · rw [hkk, hii]
              obtain ⟨c, hce⟩ : ∃ c, decide (0 ≤ D.getD k 0) = c := ⟨_, rfl⟩
              obtain ⟨b, hbe⟩ : ∃ b, decide ((l.getD k jbD).kind = (l.getD i jbD).kind) = b := ⟨_, rfl⟩
              rw [hce, hbe]
              cases c <;> cases b <;> (simp [AllL, All, cd_p, cp_p, cv_p, -List.getD_eq_getElem?_getD]; try omega)
          · obtain rfl : k = i := by omega
            have e := ckS_c (H := H) (hi := hi) HA.out HF0.out
            have hh : hotB l H hi D k = bif decide ((l.getD k jbD).kind = { data := #[119, 101, 108, 100] }) then decide (hi < H.getD (D.getD k 0).toNat 0) else false := rfl
            have HE := Lib.hid e
            have HH := Lib.hid hh
            have hn : (D.getD k 0).toNat < H.length := by have := hd; unfold dyD at this; omega
            have hn0 : 0 ≤ D.getD k 0 := hd.1
            clear hb e hh
            repeat first | refine lwp_seq fun K hK => ?_ | (with_reducible refine gA ?_; apply_assumption -exfalso -symm) | refine Stp.h ?_ | refine gF rfl ?_ | refine gG rfl ?_ | refine gM hC rfl sd ?_
            (refine lwp_drawn hC (by rw [hP]; exact mixed) ⟨[], [], []⟩ (told0 _ _) [0, 0, 3, 7, 15, 31, 63, 127, 127, 127, 895, 1919, 4095, 8191, 127, 16511, 65535, 131071] 16 rfl ?_ ?_; rotate_left 1)
            · rw [hii, ← HH.out]
              repeat first | refine lwp_seq fun K hK => ?_ | (with_reducible refine gA ?_; apply_assumption -exfalso -symm) | refine Stp.h ?_ | refine gF rfl ?_ | refine gG rfl ?_ | refine gM hC rfl sd ?_
              refine lwp_condS hC rfl sd ?_ ?_ <;> intro hb
              · have e := HE.out
                rw [if_pos hb] at e
                clear hb
                repeat first | refine lwp_seq fun K hK => ?_ | (with_reducible refine gA ?_; apply_assumption -exfalso -symm) | refine Stp.h ?_ | refine gF rfl ?_ | refine gG rfl ?_ | refine gM hC rfl sd ?_
                (refine end_intro (by first | exact .inr rfl | exact .inl rfl) [] rfl ?_)
                rw [e]
                exact ⟨rfl, trivial⟩
              · have e := HE.out
                rw [if_neg (by rw [hb]; decide)] at e
                clear hb
                repeat first | refine lwp_seq fun K hK => ?_ | (with_reducible refine gA ?_; apply_assumption -exfalso -symm) | refine Stp.h ?_ | refine gF rfl ?_ | refine gG rfl ?_ | refine gM hC rfl sd ?_
                (refine end_intro (by first | exact .inr rfl | exact .inl rfl) [] rfl ?_)
                rw [e]
                exact ⟨rfl, trivial⟩
            · rw [hii]
              obtain ⟨c, hce⟩ : ∃ c, decide ((l.getD k jbD).kind = { data := #[119, 101, 108, 100] }) = c := ⟨_, rfl⟩
              rw [hce]
              cases c <;> (simp [AllL, All, cd_p, cp_p, cv_p, -List.getD_eq_getElem?_getD]; try omega)
    · rw [hii]
      exact sd

end Go.Proofs.YtlhgddgoblliaaaGreatDoor
