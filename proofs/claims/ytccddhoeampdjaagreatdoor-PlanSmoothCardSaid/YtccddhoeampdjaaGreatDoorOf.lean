/- Chapter 9: CheckPlan, Left, Last: the program's. -/
import Derived.Test.YtccddhoeampdjaaGreatDoorOe
import Derived.Test.YtccddhoeampdjaaGreatDoorOk
set_option linter.unusedVariables false
set_option linter.unusedSimpArgs false
namespace Go.Proofs.YtccddhoeampdjaaGreatDoor
open Go.RowKit Go.Sym

def p2V (p : Int × Int) : List Value := [.int .i64 p.1, .int .i64 p.2]
def p2C (l : List (Int × Int)) : Cont := genL p2V (0, 0) 2 l
theorem p2C_snoc (l : List (Int × Int)) (x : Int × Int) : (p2C (l ++ [x])).cells = (p2C l).cells ++ [i64 x.1, i64 x.2] := genL_snoc (f := p2V) (fun _ => rfl) l x
def planE (S : List Sec) (T : List Shf) (P : List Int) : Int := if offE S T = 0 then cpE S T P else offE S T
def planV (S : List Sec) (T : List Shf) (P : List Int) : Int × Int := if planE S T P = 0 then (valV S P P.length, valC S T P P.length) else (0, 0)
structure PlanB (S : List Sec) (T : List Shf) (P : List Int) : Prop where
  B : OffB S T
  l : P.length = S.length
  o : ∀ k, k < P.length → -1 ≤ P.getD k 0 ∧ P.getD k 0 < T.length
theorem cpE_ok {S : List Sec} {T : List Shf} {P : List Int} (hB : OffB S T) (h : cpE S T P = 0) : PlanB S T P := by
  unfold cpE at h
  by_cases h1 : P.length ≠ S.length
  · rw [if_pos h1] at h; exact absurd h (by decide)
  · rw [if_neg h1] at h
    by_cases h2 : P.any (outB T.length) = true
    · rw [if_pos h2] at h; exact absurd h (by decide)
    · exact ⟨hB, by omega, fun k hk => outB_false (any_false (d := 0) (by simpa using h2) k hk)⟩
theorem planB {S : List Sec} {T : List Shf} {P : List Int} (h : planE S T P = 0) : PlanB S T P := by
  unfold planE at h
  by_cases h0 : offE S T = 0
  · rw [if_pos h0] at h; exact cpE_ok (offB h0) h
  · rw [if_neg h0] at h; exact absurd h h0
def CheckP_i (S : List Sec) (T : List Shf) (P : List Int) (σ : Ren) : Inst := { f := 29, hin := planIn S T P, args := [ofA S T, .sl 2 P.length], hout := [], ret := .tup [.agg [i64 (planV S T P).1, i64 (planV S T P).2], i64 (planE S T P)], σ := σ }
set_option maxRecDepth 20000 in
theorem CheckP_s (S : List Sec) (T : List Shf) (P : List Int) (σ : Ren) (hS : S.length ≤ 1000000) (hT : T.length ≤ 1000000) (hPl : P.length ≤ 1000000) : (CheckP_i S T P σ).ok Tryz.prog := by
  unfold CheckP_i Inst.ok; dsimp only; refine spec_of_body (tys := tys) 3 Tryz.func29 (by kernel_rfl) rfl tys_ok rfl (Nat.le_of_ble_eq_true rfl) (fun _ _ h => (by cases h)) fun F hP hm hC hrd => ?_; conv => whnf
  repeat first | refine lwp_seq fun K hK => ?_ | (with_reducible refine gA ?_; apply_assumption -exfalso -symm) | refine Stp.h ?_ | refine gF rfl ?_ | refine gG rfl ?_ | refine gM hC rfl sd ?_
  (refine lwp_region hC ⟨[], [], [(1, Off_i S T [(0, some 0), (1, some 1)])]⟩ (told1 _ (by rw [hP]; exact (calls_cons (Off_s _ _ _ hS hT) calls_nil))) rfl ?_ ?_; rotate_left 1)
  · repeat first | refine lwp_seq fun K hK => ?_ | (with_reducible refine gA ?_; apply_assumption -exfalso -symm) | refine Stp.h ?_ | refine gF rfl ?_ | refine gG rfl ?_ | refine gM hC rfl sd ?_
    refine lwp_condS hC rfl sd ?_ ?_ <;> intro hb
    · have e1 : planE S T P = offE S T := if_neg hb
      have e2 : planV S T P = (0, 0) := if_neg (by rw [e1]; exact hb)
      repeat first | refine lwp_seq fun K hK => ?_ | (with_reducible refine gA ?_; apply_assumption -exfalso -symm) | refine Stp.h ?_ | refine gF rfl ?_ | refine gG rfl ?_ | refine gM hC rfl sd ?_
      (refine end_intro (by first | exact .inr rfl | exact .inl rfl) [] rfl ?_)
      rw [e1, e2]
      exact ⟨rfl, rfl, rfl, trivial⟩
    · have hB := offB hb
      have e1 : planE S T P = cpE S T P := if_pos hb
      have HB := Lib.hid hB
      clear hB hb
      repeat first | refine lwp_seq fun K hK => ?_ | (with_reducible refine gA ?_; apply_assumption -exfalso -symm) | refine Stp.h ?_ | refine gF rfl ?_ | refine gG rfl ?_ | refine gM hC rfl ⟨⟩ ?_
      (refine lwp_region hC ⟨[], [], [(2, CPlan_i S T P [(0, some 0), (1, some 1), (2, some 2)])]⟩ (told1 _ (by rw [hP]; exact (calls_cons (CPlan_s _ _ _ _ HB.out hPl) calls_nil))) rfl ?_ ?_; rotate_left 1)
      · repeat first | refine lwp_seq fun K hK => ?_ | (with_reducible refine gA ?_; apply_assumption -exfalso -symm) | refine Stp.h ?_ | refine gF rfl ?_ | refine gG rfl ?_ | refine gM hC rfl sd ?_
        refine lwp_condS hC rfl sd ?_ ?_ <;> intro hb
        · have e2 : planV S T P = (0, 0) := if_neg (by rw [e1]; exact hb)
          repeat first | refine lwp_seq fun K hK => ?_ | (with_reducible refine gA ?_; apply_assumption -exfalso -symm) | refine Stp.h ?_ | refine gF rfl ?_ | refine gG rfl ?_ | refine gM hC rfl sd ?_
          (refine end_intro (by first | exact .inr rfl | exact .inl rfl) [] rfl ?_)
          rw [e1, e2]
          exact ⟨rfl, rfl, rfl, trivial⟩
        · have hKp := cpE_ok HB.out hb
          have e2 : planV S T P = (valV S P P.length, valC S T P P.length) := if_pos (e1.trans hb)
          rw [hb] at e1
          repeat first | refine lwp_seq fun K hK => ?_ | (with_reducible refine gA ?_; apply_assumption -exfalso -symm) | refine Stp.h ?_ | refine gF rfl ?_ | refine gG rfl ?_ | refine gM hC rfl ⟨⟩ ?_
          (refine lwp_region hC ⟨[], [], [(2, Told_i S T P [(0, some 0), (1, some 1), (2, some 2)])]⟩ (told1 _ (by rw [hP]; exact (calls_cons (Told_s _ _ _ _ HB.out (by rw [hKp.l]; exact Nat.le_refl _) (fun k hk => (hKp.o k hk).2)) calls_nil))) rfl ?_ ?_; rotate_left 1)
          · repeat first | refine lwp_seq fun K hK => ?_ | (with_reducible refine gA ?_; apply_assumption -exfalso -symm) | refine Stp.h ?_ | refine gF rfl ?_ | refine gG rfl ?_ | refine gM hC rfl sd ?_
            (refine end_intro (by first | exact .inr rfl | exact .inl rfl) [] rfl ?_)
            rw [e1, e2]
            exact ⟨rfl, rfl, rfl, trivial⟩
          · exact sd
      · exact sd
  · exact sd

def leftsL (S : List Sec) (T : List Shf) (P : List Int) (k : Nat) : List (Int × Int) := (List.range k).map fun k => (leftH S T P k P.length, leftT S T P k P.length)
theorem leftsL_len (S : List Sec) (T : List Shf) (P : List Int) (k : Nat) : (leftsL S T P k).length = k := by simp [leftsL]
theorem leftsL_step (S : List Sec) (T : List Shf) (P : List Int) (k : Nat) : leftsL S T P (k + 1) = leftsL S T P k ++ [(leftH S T P k P.length, leftT S T P k P.length)] := by
  unfold leftsL; rw [List.range_succ, List.map_append]; rfl
def leftR (S : List Sec) (T : List Shf) (P : List Int) : List (Int × Int) := if planE S T P = 0 then leftsL S T P T.length else []
def PLeft_i (S : List Sec) (T : List Shf) (P : List Int) (σ : Ren) : Inst := { f := 31, hin := planIn S T P, args := [ofA S T, .sl 2 P.length], hout := [(3, .row 161 (leftR S T P).length 2 (p2C (leftR S T P)))], ret := .tup [.sl 3 (leftR S T P).length, i64 (planE S T P)], σ := σ }
set_option maxRecDepth 20000 in
theorem PLeft_s (S : List Sec) (T : List Shf) (P : List Int) (σ : Ren) (hS : S.length ≤ 1000000) (hT : T.length ≤ 1000000) (hPl : P.length ≤ 1000000) : (PLeft_i S T P σ).ok Tryz.prog := by
  unfold PLeft_i
  by_cases hz : planE S T P = 0
  · have e : leftR S T P = leftsL S T P T.length := if_pos hz
    rw [e, leftsL_len]
    have hK := planB hz
    have HK := Lib.hid hK
    have hT5 := hK.B.lT
    clear hK e
    unfold Inst.ok; dsimp only; refine spec_of_body (tys := tys) 3 Tryz.func31 (by kernel_rfl) rfl tys_ok rfl (Nat.le_of_ble_eq_true rfl) (fun _ _ h => (by cases h)) fun F hP hm hC hrd => ?_; conv => whnf
    repeat first | refine lwp_seq fun K hK => ?_ | (with_reducible refine gA ?_; apply_assumption -exfalso -symm) | refine Stp.h ?_ | refine gF rfl ?_ | refine gG rfl ?_ | refine gM hC rfl sd ?_
    (refine lwp_region hC ⟨[], [], [(2, CheckP_i S T P [(0, some 0), (1, some 1), (2, some 2)])]⟩ (told1 _ (by rw [hP]; exact (calls_cons (CheckP_s _ _ _ _ hS hT hPl) calls_nil))) rfl ?_ ?_; rotate_left 1)
    · repeat first | refine lwp_seq fun K hK => ?_ | (with_reducible refine gA ?_; apply_assumption -exfalso -symm) | refine Stp.h ?_ | refine gF rfl ?_ | refine gG rfl ?_ | refine gM hC rfl sd ?_
      refine lwp_condS hC rfl sd ?_ ?_ <;> intro hb
      · exact absurd hz hb
      · clear hb
        repeat first | refine lwp_seq fun K hK => ?_ | (with_reducible refine gA ?_; apply_assumption -exfalso -symm) | refine Stp.h ?_ | refine gF rfl ?_ | refine gG rfl ?_ | refine gM hC rfl sd ?_
        refine lwp_loop (fun k : Nat => ⟨[(22, i64 k), (21, i64 T.length), (20, .sl 1 T.length), (1, .sl 2 P.length), (2, .ptr 3 0 0 0), (8, .sl 4 k)], [(4, .row 161 k 2 (p2C (leftsL S T P k))), (3, .blk 37 [.sl 0 S.length, .sl 1 T.length]), (0, .ro S.length 5 (secC S)), (1, .ro T.length 4 (shfC T)), (2, .ro P.length 1 (.ints .i64 P))], 5⟩) (fun k => k ≤ T.length) (fun k => T.length - k) 0 ⟨?_, sub_intro hm [(0, some 0), (1, some 1), (2, some 2), (3, some 3), (4, none)] rfl ?_⟩ ?_
        · exact Nat.zero_le _
        · exact sd
        · rintro k hk
          repeat first | refine lwp_seq fun K hK => ?_ | (with_reducible refine gA ?_; apply_assumption -exfalso -symm) | refine Stp.h ?_ | refine gF rfl ?_ | refine gG rfl ?_ | refine gM hC rfl sd ?_
          refine lwp_condS hC rfl sd ?_ ?_ <;> intro hb
          · have hk2 : k < T.length := by omega
            repeat first | refine lwp_seq fun K hK => ?_ | (with_reducible refine gA ?_; apply_assumption -exfalso -symm) | refine Stp.h ?_ | refine gF rfl ?_ | refine gG rfl ?_ | refine gM hC rfl sd ?_
            (refine lwp_region hC ⟨[], [], [(4, Left_i S T P k [(0, some 0), (1, some 1), (2, some 2)])]⟩ (told1 _ (by rw [hP]; exact (calls_cons (Left_s _ _ _ _ _ HK.out.B (by rw [HK.out.l]; exact Nat.le_refl _) hk2) calls_nil))) rfl ?_ ?_; rotate_left 1)
            · repeat first | refine lwp_seq fun K hK => ?_ | (with_reducible refine gA ?_; apply_assumption -exfalso -symm) | refine Stp.h ?_ | refine gF rfl ?_ | refine gG rfl ?_ | refine gM hC rfl sd ?_
              refine gA ⟨k + 1, ?_, ?_, sub_intro hm [(0, some 0), (1, some 1), (2, some 2), (3, some 3), (4, some 6)] rfl ?_⟩
              · omega
              · omega
              · have e2 : (p2C (leftsL S T P (k + 1))).cells = (catC (p2C (leftsL S T P k)) (Cont.exp [i64 (leftH S T P k P.length), i64 (leftT S T P k P.length)])).cells := by
                  rw [leftsL_step, p2C_snoc, catC_cells]; rfl
                exact sd
            · exact sd
          · obtain rfl : k = T.length := by omega
            repeat first | refine lwp_seq fun K hK => ?_ | (with_reducible refine gA ?_; apply_assumption -exfalso -symm) | refine Stp.h ?_ | refine gF rfl ?_ | refine gG rfl ?_ | refine gM hC rfl sd ?_
            (refine end_intro (by first | exact .inr rfl | exact .inl rfl) [(3, some 4)] rfl ?_)
            rw [hz]
            exact sd
    · exact sd
  · have e : leftR S T P = [] := if_neg hz
    rw [e]
    unfold Inst.ok; dsimp only; refine spec_of_body (tys := tys) 3 Tryz.func31 (by kernel_rfl) rfl tys_ok rfl (Nat.le_of_ble_eq_true rfl) (fun _ _ h => (by cases h)) fun F hP hm hC hrd => ?_; conv => whnf
    repeat first | refine lwp_seq fun K hK => ?_ | (with_reducible refine gA ?_; apply_assumption -exfalso -symm) | refine Stp.h ?_ | refine gF rfl ?_ | refine gG rfl ?_ | refine gM hC rfl sd ?_
    (refine lwp_region hC ⟨[], [], [(2, CheckP_i S T P [(0, some 0), (1, some 1), (2, some 2)])]⟩ (told1 _ (by rw [hP]; exact (calls_cons (CheckP_s _ _ _ _ hS hT hPl) calls_nil))) rfl ?_ ?_; rotate_left 1)
    · repeat first | refine lwp_seq fun K hK => ?_ | (with_reducible refine gA ?_; apply_assumption -exfalso -symm) | refine Stp.h ?_ | refine gF rfl ?_ | refine gG rfl ?_ | refine gM hC rfl sd ?_
      refine lwp_condS hC rfl sd ?_ ?_ <;> intro hb
      · repeat first | refine lwp_seq fun K hK => ?_ | (with_reducible refine gA ?_; apply_assumption -exfalso -symm) | refine Stp.h ?_ | refine gF rfl ?_ | refine gG rfl ?_ | refine gM hC rfl sd ?_
        (refine end_intro (by first | exact .inr rfl | exact .inl rfl) [(3, none)] rfl ?_)
        exact sd
      · exact absurd hb hz
    · exact sd

def usedB (S : List Sec) (T : List Shf) (P : List Int) (k : Nat) : Bool := !(leftH S T P k P.length == (T.getD k shfD).hr && leftT S T P k P.length == (T.getD k shfD).bl)
def lastP (S : List Sec) (T : List Shf) (P : List Int) : Nat → Int
  | 0 => -1
  | k + 1 => if usedB S T P k = true then (T.getD k shfD).day else lastP S T P k
theorem lastP_in {S : List Sec} {T : List Shf} {P : List Int} (h : OffB S T) : ∀ k, -1 ≤ lastP S T P k ∧ lastP S T P k ≤ 100000
  | 0 => by simp [lastP]
  | k + 1 => by
    have h1 := lastP_in (P := P) h k
    have h2 := h.day k
    simp only [lastP]
    split <;> omega
def lastS (S : List Sec) (T : List Shf) (P : List Int) : Int × Int := if planE S T P = 0 then (max (lastP S T P T.length) 0, whenS (decide (lastP S T P T.length < 0)) 7) else (0, planE S T P)
theorem max_zero (x : Int) : (if 0 > x then 0 else x) = max x 0 := by split <;> omega
def PLast_i (S : List Sec) (T : List Shf) (P : List Int) (σ : Ren) : Inst := { f := 32, hin := planIn S T P, args := [ofA S T, .sl 2 P.length], hout := [], ret := .tup [i64 (lastS S T P).1, i64 (lastS S T P).2], σ := σ }
set_option maxRecDepth 20000 in
theorem PLast_s (S : List Sec) (T : List Shf) (P : List Int) (σ : Ren) (hS : S.length ≤ 1000000) (hT : T.length ≤ 1000000) (hPl : P.length ≤ 1000000) : (PLast_i S T P σ).ok Tryz.prog := by
  unfold PLast_i Inst.ok; dsimp only; refine spec_of_body (tys := tys) 3 Tryz.func32 (by kernel_rfl) rfl tys_ok rfl (Nat.le_of_ble_eq_true rfl) (fun _ _ h => (by cases h)) fun F hP hm hC hrd => ?_; conv => whnf
  repeat first | refine lwp_seq fun K hK => ?_ | (with_reducible refine gA ?_; apply_assumption -exfalso -symm) | refine Stp.h ?_ | refine gF rfl ?_ | refine gG rfl ?_ | refine gM hC rfl sd ?_
  (refine lwp_region hC ⟨[], [], [(2, CheckP_i S T P [(0, some 0), (1, some 1), (2, some 2)])]⟩ (told1 _ (by rw [hP]; exact (calls_cons (CheckP_s _ _ _ _ hS hT hPl) calls_nil))) rfl ?_ ?_; rotate_left 1)
  · repeat first | refine lwp_seq fun K hK => ?_ | (with_reducible refine gA ?_; apply_assumption -exfalso -symm) | refine Stp.h ?_ | refine gF rfl ?_ | refine gG rfl ?_ | refine gM hC rfl sd ?_
    refine lwp_condS hC rfl sd ?_ ?_ <;> intro hb
    · have e : lastS S T P = (0, planE S T P) := if_neg hb
      repeat first | refine lwp_seq fun K hK => ?_ | (with_reducible refine gA ?_; apply_assumption -exfalso -symm) | refine Stp.h ?_ | refine gF rfl ?_ | refine gG rfl ?_ | refine gM hC rfl sd ?_
      (refine end_intro (by first | exact .inr rfl | exact .inl rfl) [] rfl ?_)
      rw [e]
      exact ⟨rfl, rfl, trivial⟩
    · have e : lastS S T P = (max (lastP S T P T.length) 0, whenS (decide (lastP S T P T.length < 0)) 7) := if_pos hb
      have hK := planB hb
      have hT5 := hK.B.lT
      have HK := Lib.hid hK
      clear hb hK
      repeat first | refine lwp_seq fun K hK => ?_ | (with_reducible refine gA ?_; apply_assumption -exfalso -symm) | refine Stp.h ?_ | refine gF rfl ?_ | refine gG rfl ?_ | refine gM hC rfl sd ?_
      refine lwp_loop (fun k : Nat => ⟨[(23, i64 k), (22, i64 T.length), (21, .sl 1 T.length), (1, .sl 2 P.length), (2, .ptr 3 0 0 0), (8, i64 (lastP S T P k))], [(3, .blk 37 [.sl 0 S.length, .sl 1 T.length]), (0, .ro S.length 5 (secC S)), (1, .ro T.length 4 (shfC T)), (2, .ro P.length 1 (.ints .i64 P))], 4⟩) (fun k => k ≤ T.length) (fun k => T.length - k) 0 ⟨?_, sub_intro hm [(0, some 0), (1, some 1), (2, some 2), (3, some 3)] rfl ?_⟩ ?_
      · exact Nat.zero_le _
      · exact sd
      · rintro k hk
        repeat first | refine lwp_seq fun K hK => ?_ | (with_reducible refine gA ?_; apply_assumption -exfalso -symm) | refine Stp.h ?_ | refine gF rfl ?_ | refine gG rfl ?_ | refine gM hC rfl sd ?_
        refine lwp_condS hC rfl sd ?_ ?_ <;> intro hb
        · have hk2 : k < T.length := by omega
          repeat first | refine lwp_seq fun K hK => ?_ | (with_reducible refine gA ?_; apply_assumption -exfalso -symm) | refine Stp.h ?_ | refine gF rfl ?_ | refine gG rfl ?_ | refine gM hC rfl sd ?_
          rw [Int.toNat_natCast]
          (refine lwp_drawn hC (by rw [hP]; exact mixed) ⟨[], [(9, custI2N)], [(3, Left_i S T P k [(0, some 0), (1, some 1), (2, some 2)])]⟩ ⟨(fun p hp => by rcases List.mem_cons.1 hp with rfl | hp; rw [hP]; exact custI2N_ok; cases hp), (by rw [hP]; exact (calls_cons (Left_s _ _ _ _ _ HK.out.B (by rw [HK.out.l]; exact Nat.le_refl _) hk2) calls_nil))⟩ [0, 0, 0, 7, 0, 16, 0, 64, 240, 511] 9 rfl ?_ ?_; rotate_left 1)
          · repeat first | refine lwp_seq fun K hK => ?_ | (with_reducible refine gA ?_; apply_assumption -exfalso -symm) | refine Stp.h ?_ | refine gF rfl ?_ | refine gG rfl ?_ | refine gM hC rfl sd ?_
            refine lwp_condS hC rfl sd ?_ ?_ <;> intro hb
            · have e2 : lastP S T P (k + 1) = (T.getD k shfD).day := if_pos (show usedB S T P k = true by unfold usedB; rw [hb]; rfl)
              repeat first | refine lwp_seq fun K hK => ?_ | (with_reducible refine gA ?_; apply_assumption -exfalso -symm) | refine Stp.h ?_ | refine gF rfl ?_ | refine gG rfl ?_ | refine gM hC rfl sd ?_
              refine gA ⟨k + 1, ?_, ?_, sub_intro hm [(0, some 0), (1, some 1), (2, some 2), (3, some 3)] rfl ?_⟩
              · omega
              · omega
              · rw [e2]
                exact sd
            · have e2 : lastP S T P (k + 1) = lastP S T P k := if_neg (by unfold usedB; rw [hb]; decide)
              repeat first | refine lwp_seq fun K hK => ?_ | (with_reducible refine gA ?_; apply_assumption -exfalso -symm) | refine Stp.h ?_ | refine gF rfl ?_ | refine gG rfl ?_ | refine gM hC rfl sd ?_
              refine gA ⟨k + 1, ?_, ?_, sub_intro hm [(0, some 0), (1, some 1), (2, some 2), (3, some 3)] rfl ?_⟩
              · omega
              · omega
              · rw [e2]
                exact sd
          · exact sd
        · obtain rfl : k = T.length := by omega
          clear hb
          repeat first | refine lwp_seq fun K hK => ?_ | (with_reducible refine gA ?_; apply_assumption -exfalso -symm) | refine Stp.h ?_ | refine gF rfl ?_ | refine gG rfl ?_ | refine gM hC rfl sd ?_
          (refine lwp_region hC ⟨[], [], [(4, PWhen_i (decide (lastP S T P T.length < 0)) 7)]⟩ (told1 _ (by rw [hP]; exact (calls_cons (PWhen_s _ _) calls_nil))) rfl ?_ ?_; rotate_left 1)
          · rw [max_zero]
            repeat first | refine lwp_seq fun K hK => ?_ | (with_reducible refine gA ?_; apply_assumption -exfalso -symm) | refine Stp.h ?_ | refine gF rfl ?_ | refine gG rfl ?_ | refine gM hC rfl sd ?_
            (refine end_intro (by first | exact .inr rfl | exact .inl rfl) [] rfl ?_)
            rw [e]
            exact ⟨rfl, rfl, trivial⟩
          · exact sd
  · exact sd

end Go.Proofs.YtccddhoeampdjaaGreatDoor
