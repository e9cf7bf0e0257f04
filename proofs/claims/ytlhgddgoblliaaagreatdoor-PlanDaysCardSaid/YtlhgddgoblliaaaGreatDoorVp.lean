/- Chapter 9: a job's day, the program's check. -/
import Derived.Test.YtlhgddgoblliaaaGreatDoorVo
set_option linter.unusedVariables false
set_option linter.unusedSimpArgs false
namespace Go.Proofs.YtlhgddgoblliaaaGreatDoor
open Go.RowKit Go.Sym

def weldB : ByteArray := ⟨#[119, 101, 108, 100]⟩
abbrev dyD (D : List Int) (k : Nat) : Int := D.getD k 0
def sqIn (l : List Jb) (H : List Int) (lo hi : Int) (D : List Int) : List (Nat × Chunk) := [(0, jbCh l 1), (1, fmCh l), (2, .ro H.length 1 (.ints .i64 H)), (3, .obj (.ix (nmJ l))), (4, .ro l.length 1 (.ints .i64 D)), (5, .rb 129 [.sl 0 l.length, .sl 2 H.length, i64 lo, i64 hi, .mp 3, .sl 4 l.length])]
def erIn (l : List Jb) (H : List Int) (lo hi : Int) (D : List Int) (day : Int) : List (Nat × Chunk) := sqIn l H lo hi D ++ [(6, .rb 125 [.ptr 5 0 0 0]), (7, .rb 3 [i64 day])]
/-- A job that is needed has no day before. -/
def erV (ns : List ByteArray) (D : List Int) (day : Int) (s : ByteArray) : Bool := decide (dyD D (ixV ns s).toNat ≥ day)
def Er1_i (l : List Jb) (H : List Int) (lo hi : Int) (D : List Int) (day : Int) (s : ByteArray) (σ : Ren) : Inst := { f := 124, hin := erIn l H lo hi D day, args := [Sb s, .ptr 6 0 0 0, .ptr 7 0 0 0], hout := [(3, .obj (.ix (nmJ l)))], ret := bl (erV (nmJ l) D day s), σ := σ }
theorem Er1_s (l : List Jb) (H : List Int) (lo hi : Int) (D : List Int) (day : Int) (s : ByteArray) (σ : Ren) (h0 : 0 < l.length) (hD : D.length = l.length) : (Er1_i l H lo hi D day s σ).ok Tryz.prog := by
  have hi0 := ixV_in (ns := nmJ l) s (by rw [nmJ_len]; exact h0)
  rw [nmJ_len] at hi0
  unfold Er1_i erIn sqIn Inst.ok; dsimp only; refine spec_of_body (tys := tys) 8 Tryz.func124 (by kernel_rfl) rfl tys_ok rfl (Nat.le_of_ble_eq_true rfl) (fun _ _ h => (by cases h)) fun F hP hm hC hrd => ?_; conv => whnf
  repeat first | refine lwp_seq fun K hK => ?_ | (with_reducible refine gA ?_; apply_assumption -exfalso -symm) | refine Stp.h ?_ | refine gF rfl ?_ | refine gG rfl ?_ | refine gM hC rfl sd ?_
  (refine lwp_drawn hC (by rw [hP]; exact mixed) ⟨[], [], []⟩ (told0 _ _) [0, 1, 3, 7, 0, 16, 48, 112, 0, 496, 1023, 2047, 4095] 10 rfl ?_ ?_; rotate_left 1)
  · repeat first | refine lwp_seq fun K hK => ?_ | (with_reducible refine gA ?_; apply_assumption -exfalso -symm) | refine Stp.h ?_ | refine gF rfl ?_ | refine gG rfl ?_ | refine gM hC rfl sd ?_
    (refine end_intro (by first | exact .inr rfl | exact .inl rfl) [(3, some 3)] rfl ?_)
    exact sd
  · exact sd
def IxE_i (l : List Jb) (H : List Int) (lo hi : Int) (D : List Int) (day : Int) (j : Nat) (σ : Ren) : Inst := { f := 155, hin := erIn l H lo hi D day, args := [.tb 1 (.row j (lnJ l j)), .fn 124 [] [.ptr 6 0 0 0, .ptr 7 0 0 0]], hout := [(3, .obj (.ix (nmJ l)))], ret := i64 (idxF (erV (nmJ l) D day) (l.getD j jbD).af), σ := σ }
set_option maxRecDepth 20000 in
theorem IxE_s (l : List Jb) (H : List Int) (lo hi : Int) (D : List Int) (day : Int) (j : Nat) (σ : Ren) (h0 : 0 < l.length) (hD : D.length = l.length) (hj : j < l.length) (hl : lnJ l j ≤ 1000000) : (IxE_i l H lo hi D day j σ).ok Tryz.prog := by
  unfold IxE_i erIn sqIn Inst.ok; dsimp only; refine spec_of_body (tys := tys) 8 Tryz.func155 (by kernel_rfl) rfl tys_ok rfl (Nat.le_of_ble_eq_true rfl) (fun _ _ h => (by cases h)) fun F hP hm hC hrd => ?_; conv => whnf
  repeat first | refine lwp_seq fun K hK => ?_ | (with_reducible refine gA ?_; apply_assumption -exfalso -symm) | refine Stp.h ?_ | refine gF rfl ?_ | refine gG rfl ?_ | refine gM hC rfl sd ?_
  refine lwp_loop (fun k : Nat => ⟨[(8, i64 k), (7, i64 (lnJ l j)), (0, .tb 1 (.row j (lnJ l j))), (1, .fn 124 [] [.ptr 6 0 0 0, .ptr 7 0 0 0])], erIn l H lo hi D day, 8⟩) (fun k => k ≤ lnJ l j ∧ ∀ i : Nat, i < k → erV (nmJ l) D day (afJ l j i) = false) (fun k => lnJ l j - k) 0 ⟨?_, sub_intro hm [(0, some 0), (1, some 1), (2, some 2), (3, some 3), (4, some 4), (5, some 5), (6, some 6), (7, some 7)] rfl ?_⟩ ?_
  · exact ⟨Nat.zero_le _, fun i hi => absurd hi (Nat.not_lt_zero _)⟩
  · exact sd
  · rintro k ⟨hk, hf⟩
    have hkk : ((k : Int)).toNat = k := Int.toNat_natCast k
    have HF := Lib.hid hf
    clear hf
    unfold erIn sqIn
    repeat first | refine lwp_seq fun K hK => ?_ | (with_reducible refine gA ?_; apply_assumption -exfalso -symm) | refine Stp.h ?_ | refine gF rfl ?_ | refine gG rfl ?_ | refine gM hC rfl sd ?_
    refine lwp_condS hC rfl sd ?_ ?_ <;> intro hb
    · have hk2 : k < lnJ l j := by omega
      clear hb
      repeat first | refine lwp_seq fun K hK => ?_ | (with_reducible refine gA ?_; apply_assumption -exfalso -symm) | refine Stp.h ?_ | refine gF rfl ?_ | refine gG rfl ?_ | refine gM hC rfl sd ?_
      (refine lwp_region hC ⟨[], [], [(5, Er1_i l H lo hi D day (afJ l j k) [(0, some 0), (1, some 1), (2, some 2), (3, some 3), (4, some 4), (5, some 5), (6, some 6), (7, some 7)])]⟩ (told1 _ (by rw [hP]; exact (calls_cons (Er1_s _ _ _ _ _ _ _ _ h0 hD) calls_nil))) rfl ?_ ?_; rotate_left 1)
      · repeat first | refine lwp_seq fun K hK => ?_ | (with_reducible refine gA ?_; apply_assumption -exfalso -symm) | refine Stp.h ?_ | refine gF rfl ?_ | refine gG rfl ?_ | refine gM hC rfl sd ?_
        refine lwp_condS hC rfl sd ?_ ?_ <;> intro hb
        · have hE := idxF_hit (d := ByteArray.empty) hk2 (show erV (nmJ l) D day (afJ l j k) = true from hb) HF.out
          clear hb
          repeat first | refine lwp_seq fun K hK => ?_ | (with_reducible refine gA ?_; apply_assumption -exfalso -symm) | refine Stp.h ?_ | refine gF rfl ?_ | refine gG rfl ?_ | refine gM hC rfl sd ?_
          (refine end_intro (by first | exact .inr rfl | exact .inl rfl) [(3, some 3)] rfl ?_)
          rw [hE]
          exact sd
        · have hne : erV (nmJ l) D day (afJ l j k) = false := hb
          have HN := Lib.hid hne
          clear hb hne
          repeat first | refine lwp_seq fun K hK => ?_ | (with_reducible refine gA ?_; apply_assumption -exfalso -symm) | refine Stp.h ?_ | refine gF rfl ?_ | refine gG rfl ?_ | refine gM hC rfl sd ?_
          refine gA ⟨k + 1, ?_, ?_, sub_intro hm [(0, some 0), (1, some 1), (2, some 2), (3, some 3), (4, some 4), (5, some 5), (6, some 6), (7, some 7)] rfl ?_⟩
          · refine ⟨hk2, fun i hi => ?_⟩
            by_cases e : i = k
            · subst e; exact HN.out
            · exact HF.out i (by omega)
          · omega
          · exact sd
      · rw [hkk]
        exact sd
    · have hk3 : k = lnJ l j := by omega
      subst hk3
      have hE := idxF_none (d := ByteArray.empty) HF.out
      clear hb
      repeat first | refine lwp_seq fun K hK => ?_ | (with_reducible refine gA ?_; apply_assumption -exfalso -symm) | refine Stp.h ?_ | refine gF rfl ?_ | refine gG rfl ?_ | refine gM hC rfl sd ?_
      (refine end_intro (by first | exact .inr rfl | exact .inl rfl) [(3, some 3)] rfl ?_)
      rw [hE]
      exact sd
def CtE_i (l : List Jb) (H : List Int) (lo hi : Int) (D : List Int) (day : Int) (j : Nat) (σ : Ren) : Inst := { f := 123, hin := erIn l H lo hi D day, args := [.tb 1 (.row j (lnJ l j)), .fn 124 [] [.ptr 6 0 0 0, .ptr 7 0 0 0]], hout := [(3, .obj (.ix (nmJ l)))], ret := bl ((l.getD j jbD).af.any (erV (nmJ l) D day)), σ := σ }
set_option maxRecDepth 20000 in
theorem CtE_s (l : List Jb) (H : List Int) (lo hi : Int) (D : List Int) (day : Int) (j : Nat) (σ : Ren) (h0 : 0 < l.length) (hD : D.length = l.length) (hj : j < l.length) (hl : lnJ l j ≤ 1000000) : (CtE_i l H lo hi D day j σ).ok Tryz.prog := by
  have hsg := idxF_sign (erV (nmJ l) D day) (l.getD j jbD).af
  unfold CtE_i erIn sqIn Inst.ok; dsimp only; refine spec_of_body (tys := tys) 8 Tryz.func123 (by kernel_rfl) rfl tys_ok rfl (Nat.le_of_ble_eq_true rfl) (fun _ _ h => (by cases h)) fun F hP hm hC hrd => ?_; conv => whnf
  repeat first | refine lwp_seq fun K hK => ?_ | (with_reducible refine gA ?_; apply_assumption -exfalso -symm) | refine Stp.h ?_ | refine gF rfl ?_ | refine gG rfl ?_ | refine gM hC rfl ⟨⟩ ?_
  (refine lwp_region hC ⟨[], [], [(2, IxE_i l H lo hi D day j [(0, some 0), (1, some 1), (2, some 2), (3, some 3), (4, some 4), (5, some 5), (6, some 6), (7, some 7)])]⟩ (told1 _ (by rw [hP]; exact (calls_cons (IxE_s _ _ _ _ _ _ _ _ h0 hD hj hl) calls_nil))) rfl ?_ ?_; rotate_left 1)
  · repeat first | refine lwp_seq fun K hK => ?_ | (with_reducible refine gA ?_; apply_assumption -exfalso -symm) | refine Stp.h ?_ | refine gF rfl ?_ | refine gG rfl ?_ | refine gM hC rfl sd ?_
    (refine end_intro (by first | exact .inr rfl | exact .inl rfl) [(3, some 3)] rfl ?_)
    rw [← hsg]
    exact sd
  · exact sd

/-- Two jobs of a kind on one day. -/
def twB (l : List Jb) (D : List Int) (i k : Nat) : Bool := bif decide ((l.getD k jbD).kind = (l.getD i jbD).kind) then decide (dyD D k = dyD D i) else false
def twR (l : List Jb) (D : List Int) (i k : Nat) : Bool := (List.range k).any (twB l D i)
theorem twR_succ (l : List Jb) (D : List Int) (i k : Nat) : twR l D i (k + 1) = bif twR l D i k then true else twB l D i k := by
  unfold twR
  rw [List.range_succ, List.any_append]
  simp
def hotB (l : List Jb) (H : List Int) (hi : Int) (D : List Int) (i : Nat) : Bool := bif decide ((l.getD i jbD).kind = weldB) then decide (H.getD (dyD D i).toNat 0 > hi) else false
/-- The error of a job's day. -/
def ckS (l : List Jb) (H : List Int) (hi : Int) (D : List Int) (i : Nat) : Int := firstS [whenS ((l.getD i jbD).af.any (erV (nmJ l) D (dyD D i))) 11, whenS (twR l D i i) 9, whenS (hotB l H hi D i) 30]
def Ck_i (l : List Jb) (H : List Int) (lo hi : Int) (D : List Int) (i : Nat) (σ : Ren) : Inst := { f := 60, hin := sqIn l H lo hi D, args := [.ptr 5 0 0 0, i64 i], hout := [(3, .obj (.ix (nmJ l)))], ret := i64 (ckS l H hi D i), σ := σ }
set_option maxRecDepth 20000 in
set_option maxHeartbeats 4000000 in
theorem Ck_s (l : List Jb) (H : List Int) (lo hi : Int) (D : List Int) (i : Nat) (σ : Ren) (hi2 : i < l.length) (hl : l.length ≤ 1000) (hln : lnJ l i ≤ 1000) (hD : D.length = l.length) (hd : 0 ≤ dyD D i ∧ dyD D i < H.length) : (Ck_i l H lo hi D i σ).ok Tryz.prog := by
  have hii : ((i : Int)).toNat = i := Int.toNat_natCast i
  have hct := CtE_s l H lo hi D (dyD D i) i [(0, some 0), (1, some 1), (2, some 2), (3, some 3), (4, some 4), (5, some 5), (6, some 6), (7, some 8)] (by omega) hD hi2 (by omega)
  have HC := Lib.hid hct
  clear hct
  unfold Ck_i sqIn Inst.ok; dsimp only; refine spec_of_body (tys := tys) 6 Tryz.func60 (by kernel_rfl) rfl tys_ok rfl (Nat.le_of_ble_eq_true rfl) (fun _ _ h => (by cases h)) fun F hP hm hC hrd => ?_; conv => whnf
  repeat first | refine lwp_seq fun K hK => ?_ | (with_reducible refine gA ?_; apply_assumption -exfalso -symm) | refine Stp.h ?_ | refine gF rfl ?_ | refine gG rfl ?_ | refine gM hC rfl sd ?_
  (refine lwp_drawn2 hC (by rw [hP]; exact mixed) ⟨[], [], []⟩ (told0 _ _) [0, 1, 3, 7, 0, 31, 63, 0, 128, 384, 896, 0, 3968, 8064, 0, 0, 49279, 131071] 16 16256 rfl ?_ ?_; rotate_left 1)
  · rw [hii]
    repeat first | refine lwp_seq fun K hK => ?_ | (with_reducible refine gA ?_; apply_assumption -exfalso -symm) | refine Stp.h ?_ | refine gF rfl ?_ | refine gG rfl ?_
    (refine lwp_region hC ⟨[], [], [(3, CtE_i l H lo hi D (dyD D i) i [(0, some 0), (1, some 1), (2, some 2), (3, some 3), (4, some 4), (5, some 5), (6, some 6), (7, some 8)])]⟩ (told1 _ (by rw [hP]; exact (calls_cons (HC.out) calls_nil))) rfl ?_ ?_; rotate_left 1)
    · repeat first | refine lwp_seq fun K hK => ?_ | (with_reducible refine gA ?_; apply_assumption -exfalso -symm) | refine Stp.h ?_ | refine gF rfl ?_ | refine gG rfl ?_ | refine gM hC rfl sd ?_
      · rw [hii, Nat.sub_zero]
        refine lwp_loop (fun k : Nat => ⟨[(36, i64 k), (35, i64 i), (34, .sl 9 i), (8, bl (twR l D i k)), (7, bl ((l.getD i jbD).af.any (erV (nmJ l) D (dyD D i)))), (5, .ptr 7 0 0 0), (6, .ptr 8 0 0 0), (2, .ptr 6 0 0 0), (1, i64 i)], [(9, .ro i 3 (.jbs 1 i 3 (hdJ l) (lnJ l))), (8, .blk 3 [i64 (dyD D i)]), (7, .blk 131 [Sb (l.getD i jbD).name, Sb (l.getD i jbD).kind, .tb 1 (.row i (lnJ l i))]), (6, .blk 125 [.ptr 5 0 0 0]), (0, jbCh l 1), (1, fmCh l), (2, .ro H.length 1 (.ints .i64 H)), (3, .obj (.ix (nmJ l))), (4, .ro l.length 1 (.ints .i64 D)), (5, .rb 129 [.sl 0 l.length, .sl 2 H.length, i64 lo, i64 hi, .mp 3, .sl 4 l.length])], 10⟩) (fun k => k ≤ i) (fun k => i - k) 0 ⟨?_, sub_intro hm [(0, some 0), (1, some 1), (2, some 2), (3, some 3), (4, some 4), (5, some 5), (6, some 6), (7, some 7), (8, some 8), (9, some 11)] rfl ?_⟩ ?_
        · exact Nat.zero_le _
        · exact sd
        · rintro k hk
          have hkk : ((k : Int)).toNat = k := Int.toNat_natCast k
          have hst : twR l D i (k + 1) = bif twR l D i k then true else bif decide ((l.getD k jbD).kind = (l.getD i jbD).kind) then decide (D.getD k 0 = dyD D i) else false := twR_succ l D i k
          repeat first | refine lwp_seq fun K hK => ?_ | (with_reducible refine gA ?_; apply_assumption -exfalso -symm) | refine Stp.h ?_ | refine gF rfl ?_ | refine gG rfl ?_ | refine gM hC rfl sd ?_
          refine lwp_condS hC rfl sd ?_ ?_ <;> intro hb
          · have hk2 : k < i := by omega
            clear hb
            repeat first | refine lwp_seq fun K hK => ?_ | (with_reducible refine gA ?_; apply_assumption -exfalso -symm) | refine Stp.h ?_ | refine gF rfl ?_ | refine gG rfl ?_
            (refine lwp_region hC ⟨[], [], []⟩ (told0 _ _) rfl ?_ ?_; rotate_left 1)
            · rw [hkk]
              repeat first | refine lwp_seq fun K hK => ?_ | (with_reducible refine gA ?_; apply_assumption -exfalso -symm) | refine Stp.h ?_ | refine gF rfl ?_ | refine gG rfl ?_
              (refine lwp_drawn2 hC (by rw [hP]; exact mixed) ⟨[], [], []⟩ (told0 _ _) [0, 1, 3, 7, 3, 19, 63, 127, 255, 511, 1023, 2047, 255, 8191, 16383, 255, 65535, 131071, 262143, 524287] 19 0 rfl ?_ ?_; rotate_left 1)
              · rw [hkk]
                repeat first | refine lwp_seq fun K hK => ?_ | (with_reducible refine gA ?_; apply_assumption -exfalso -symm) | refine Stp.h ?_ | refine gF rfl ?_ | refine gG rfl ?_ | refine gM hC rfl sd ?_
                refine gA ⟨k + 1, ?_, ?_, sub_intro hm [(0, some 0), (1, some 1), (2, some 2), (3, some 3), (4, some 4), (5, some 5), (6, some 6), (7, some 7), (8, some 8), (9, some 9)] rfl ?_⟩
                · omega
                · omega
                · rw [hst]
                  exact sd
              · rw [hkk]
                obtain ⟨b, hbe⟩ : ∃ b, twR l D i k = b := ⟨_, rfl⟩
                obtain ⟨c, hce⟩ : ∃ c, decide ((l.getD k jbD).kind = (l.getD i jbD).kind) = c := ⟨_, rfl⟩
                rw [hbe, hce]
                cases b <;> cases c <;> (simp [AllL, All, cd_p, cp_p, cv_p]; try omega)
            · rw [hkk]
              exact sd
          · obtain rfl : k = i := by omega
            clear hb hst
            repeat first | refine lwp_seq fun K hK => ?_ | (with_reducible refine gA ?_; apply_assumption -exfalso -symm) | refine Stp.h ?_ | refine gF rfl ?_ | refine gG rfl ?_
            (refine lwp_drawn2 hC (by rw [hP]; exact mixed) ⟨[], [], [(1, PWhen_i ((l.getD k jbD).af.any (erV (nmJ l) D (dyD D k))) 11), (3, PWhen_i (twR l D k k) 9), (22, PWhen_i (hotB l H hi D k) 30), (24, PFirst_i [whenS ((l.getD k jbD).af.any (erV (nmJ l) D (dyD D k))) 11, whenS (twR l D k k) 9, whenS (hotB l H hi D k) 30] [(0, some 10)])]⟩ (told1 _ (by rw [hP]; exact (calls_cons (PWhen_s _ _) (calls_cons (PWhen_s _ _) (calls_cons (PWhen_s _ _) (calls_cons (PFirst_s _ _ (by simp)) calls_nil)))))) [0, 1, 0, 7, 0, 16, 48, 127, 255, 511, 1023, 2047, 255, 8191, 16383, 255, 33023, 98559, 229631, 491775, 1048575, 2097151, 4194303, 8388607, 16777215, 33554431] 26 0 rfl ?_ ?_; rotate_left 1)
            · repeat first | refine lwp_seq fun K hK => ?_ | (with_reducible refine gA ?_; apply_assumption -exfalso -symm) | refine Stp.h ?_ | refine gF rfl ?_ | refine gG rfl ?_ | refine gM hC rfl sd ?_
              (refine end_intro (by first | exact .inr rfl | exact .inl rfl) [(3, some 3)] rfl ?_)
              exact sd
            · have hh : hotB l H hi D k = bif decide ((l.getD k jbD).kind = { data := #[119, 101, 108, 100] }) then decide (hi < H.getD (dyD D k).toNat 0) else false := rfl
              have hn : (dyD D k).toNat < H.length := by omega
              have hn0 := hd.1
              rw [← hh]
              obtain ⟨c, hce⟩ : ∃ c, decide ((l.getD k jbD).kind = { data := #[119, 101, 108, 100] }) = c := ⟨_, rfl⟩
              rw [hce]
              cases c <;> (simp [AllL, All, cd_p, cp_p, cv_p, Cont.cells, -List.getD_eq_getElem?_getD]; try omega)
    · exact sd
  · rw [hii]
    exact sd

/-! A job that needs this one, on a day not before it. -/
def ltB (l : List Jb) (D : List Int) (i k : Nat) : Bool := bif decide (dyD D k ≤ dyD D i) then memS (l.getD k jbD).af (l.getD i jbD).name else false
def ltR (l : List Jb) (D : List Int) (i k : Nat) : Bool := (List.range k).any (ltB l D i)
theorem ltR_succ (l : List Jb) (D : List Int) (i k : Nat) : ltR l D i (k + 1) = bif ltR l D i k then true else ltB l D i k := by
  unfold ltR
  rw [List.range_succ, List.any_append]
  simp
theorem ltR_on {l : List Jb} {D : List Int} {i k n : Nat} (hk : k < n) (h : ltB l D i k = true) : ltR l D i n = true := List.any_eq_true.2 ⟨k, List.mem_range.2 hk, h⟩
def Lt_i (l : List Jb) (H : List Int) (lo hi : Int) (D : List Int) (i : Nat) (σ : Ren) : Inst := { f := 126, hin := sqIn l H lo hi D, args := [.ptr 5 0 0 0, i64 i], hout := [(3, .obj (.ix (nmJ l)))], ret := bl (ltR l D i i), σ := σ }
set_option maxRecDepth 20000 in
set_option maxHeartbeats 4000000 in
theorem Lt_s (l : List Jb) (H : List Int) (lo hi : Int) (D : List Int) (i : Nat) (σ : Ren) (hi2 : i < l.length) (hl : l.length ≤ 1000) (hln : ∀ k, lnJ l k ≤ 1000) (hD : D.length = l.length) : (Lt_i l H lo hi D i σ).ok Tryz.prog := by
  have hii : ((i : Int)).toNat = i := Int.toNat_natCast i
  unfold Lt_i sqIn Inst.ok; dsimp only; refine spec_of_body (tys := tys) 6 Tryz.func126 (by kernel_rfl) rfl tys_ok rfl (Nat.le_of_ble_eq_true rfl) (fun _ _ h => (by cases h)) fun F hP hm hC hrd => ?_; conv => whnf
  repeat first | refine lwp_seq fun K hK => ?_ | (with_reducible refine gA ?_; apply_assumption -exfalso -symm) | refine Stp.h ?_ | refine gF rfl ?_ | refine gG rfl ?_ | refine gM hC rfl sd ?_
  rw [hii, Nat.sub_zero]
  refine lwp_loop (fun k : Nat => ⟨[(14, i64 k), (13, i64 i), (12, .sl 6 i), (0, .ptr 5 0 0 0), (1, i64 i)], [(6, .ro i 3 (.jbs 1 i 3 (hdJ l) (lnJ l))), (0, jbCh l 1), (1, fmCh l), (2, .ro H.length 1 (.ints .i64 H)), (3, .obj (.ix (nmJ l))), (4, .ro l.length 1 (.ints .i64 D)), (5, .rb 129 [.sl 0 l.length, .sl 2 H.length, i64 lo, i64 hi, .mp 3, .sl 4 l.length])], 7⟩) (fun k => k ≤ i ∧ ltR l D i k = false) (fun k => i - k) 0 ⟨?_, sub_intro hm [(0, some 0), (1, some 1), (2, some 2), (3, some 3), (4, some 4), (5, some 5), (6, some 6)] rfl ?_⟩ ?_
  · exact ⟨Nat.zero_le _, rfl⟩
  · exact sd
  · rintro k ⟨hk, hf⟩
    have hkk : ((k : Int)).toNat = k := Int.toNat_natCast k
    have hst := ltR_succ l D i k
    have hf0 := hf
    rw [hf] at hst
    have HST := Lib.hid hst
    clear hst hf
    repeat first | refine lwp_seq fun K hK => ?_ | (with_reducible refine gA ?_; apply_assumption -exfalso -symm) | refine Stp.h ?_ | refine gF rfl ?_ | refine gG rfl ?_ | refine gM hC rfl sd ?_
    refine lwp_condS hC rfl sd ?_ ?_ <;> intro hb
    · have hk2 : k < i := by omega
      have hct := CtT_s l k (l.getD i jbD).name [(0, some 1)] (by omega) (by have := hln k; omega)
      clear hb
      repeat first | refine lwp_seq fun K hK => ?_ | (with_reducible refine gA ?_; apply_assumption -exfalso -symm) | refine Stp.h ?_ | refine gF rfl ?_ | refine gG rfl ?_
      (refine lwp_region hC ⟨[], [], []⟩ (told0 _ _) rfl ?_ ?_; rotate_left 1)
      · rw [hkk]
        by_cases hle : D.getD k 0 ≤ D.getD i 0
        · have hB : ltB l D i k = memS (l.getD k jbD).af (l.getD i jbD).name := by
            unfold ltB
            rw [show decide (dyD D k ≤ dyD D i) = true from decide_eq_true hle]
            rfl
          rw [hB] at HST
          obtain ⟨c, hce⟩ : ∃ c, memS (l.getD k jbD).af (l.getD i jbD).name = c := ⟨_, rfl⟩
          unfold CtT_i at hct
          rw [hce] at HST hct hB
          repeat first | refine lwp_seq fun K hK => ?_ | (with_reducible refine gA ?_; apply_assumption -exfalso -symm) | refine Stp.h ?_ | refine gF rfl ?_ | refine gG rfl ?_
          (refine lwp_drawn2 hC (by rw [hP]; exact mixed) ⟨[(15, { b := some true }), (14, { b := some true })], [], [(26, { f := 72, hin := [(0, fmCh l)], args := [.tb 0 (.row k (lnJ l k)), Sb (l.getD i jbD).name], hout := [], ret := bl c, σ := [(0, some 1)] })]⟩ (told1 _ (by rw [hP]; exact (calls_cons (hct) calls_nil))) [0, 1, 3, 7, 0, 31, 63, 0, 128, 384, 896, 0, 3968, 8064, 16383, 32767, 65535, 131071, 65535, 327679, 851967, 1900543, 65535, 8191999, 16580607, 33357823, 67108863, 134217727] 28 0 rfl ?_ ?_; rotate_left 1)
          · rw [hkk, hii]
            repeat first | refine lwp_seq fun K hK => ?_ | (with_reducible refine gA ?_; apply_assumption -exfalso -symm) | refine Stp.h ?_ | refine gF rfl ?_ | refine gG rfl ?_ | refine gM hC rfl sd ?_
            cases c with
            | true =>
              have hE : ltR l D i i = true := ltR_on hk2 hB
              refine lwp_condS hC rfl sd ?_ ?_ <;> intro hb
              · clear hb
                repeat first | refine lwp_seq fun K hK => ?_ | (with_reducible refine gA ?_; apply_assumption -exfalso -symm) | refine Stp.h ?_ | refine gF rfl ?_ | refine gG rfl ?_ | refine gM hC rfl sd ?_
                (refine end_intro (by first | exact .inr rfl | exact .inl rfl) [(3, some 3)] rfl ?_)
                rw [hE]
                exact sd
              · simp at hb
            | false =>
              refine lwp_condS hC rfl sd ?_ ?_ <;> intro hb
              · simp at hb
              · clear hb
                repeat first | refine lwp_seq fun K hK => ?_ | (with_reducible refine gA ?_; apply_assumption -exfalso -symm) | refine Stp.h ?_ | refine gF rfl ?_ | refine gG rfl ?_ | refine gM hC rfl sd ?_
                refine gA ⟨k + 1, ?_, ?_, sub_intro hm [(0, some 0), (1, some 1), (2, some 2), (3, some 3), (4, some 4), (5, some 5), (6, some 6)] rfl ?_⟩
                · exact ⟨hk2, HST.out⟩
                · omega
                · exact sd
          · rw [hkk, hii]
            exact sd
        · have hB : ltB l D i k = false := by
            unfold ltB
            rw [show decide (dyD D k ≤ dyD D i) = false from decide_eq_false hle]
            rfl
          rw [hB] at HST
          repeat first | refine lwp_seq fun K hK => ?_ | (with_reducible refine gA ?_; apply_assumption -exfalso -symm) | refine Stp.h ?_ | refine gF rfl ?_ | refine gG rfl ?_
          (refine lwp_drawn2 hC (by rw [hP]; exact mixed) ⟨[(14, { b := some false }), (15, { b := some false }), (16, { g := some false }), (17, { g := some false }), (18, { g := some false }), (19, { g := some false }), (20, { g := some false }), (21, { g := some false }), (22, { g := some false }), (23, { g := some false }), (24, { g := some false }), (25, { g := some false }), (26, { g := some false })], [], []⟩ (told0 _ _) [0, 1, 3, 7, 0, 31, 63, 0, 128, 384, 896, 0, 3968, 8064, 16383, 32767, 65535, 131071, 65535, 327679, 851967, 1900543, 65535, 8191999, 16580607, 33357823, 67108863, 134217727] 28 0 rfl ?_ ?_; rotate_left 1)
          · rw [hkk, hii]
            repeat first | refine lwp_seq fun K hK => ?_ | (with_reducible refine gA ?_; apply_assumption -exfalso -symm) | refine Stp.h ?_ | refine gF rfl ?_ | refine gG rfl ?_ | refine gM hC rfl sd ?_
            refine lwp_condS hC rfl sd ?_ ?_ <;> intro hb
            · simp at hb
            · clear hb
              repeat first | refine lwp_seq fun K hK => ?_ | (with_reducible refine gA ?_; apply_assumption -exfalso -symm) | refine Stp.h ?_ | refine gF rfl ?_ | refine gG rfl ?_ | refine gM hC rfl sd ?_
              refine gA ⟨k + 1, ?_, ?_, sub_intro hm [(0, some 0), (1, some 1), (2, some 2), (3, some 3), (4, some 4), (5, some 5), (6, some 6)] rfl ?_⟩
              · exact ⟨hk2, HST.out⟩
              · omega
              · exact sd
          · rw [hkk, hii]
            exact sd
      · rw [hkk]
        exact sd
    · obtain rfl : k = i := by omega
      clear hb
      have hE := hf0
      repeat first | refine lwp_seq fun K hK => ?_ | (with_reducible refine gA ?_; apply_assumption -exfalso -symm) | refine Stp.h ?_ | refine gF rfl ?_ | refine gG rfl ?_ | refine gM hC rfl sd ?_
      (refine end_intro (by first | exact .inr rfl | exact .inl rfl) [(3, some 3)] rfl ?_)
      rw [hE]
      exact sd

end Go.Proofs.YtlhgddgoblliaaaGreatDoor
