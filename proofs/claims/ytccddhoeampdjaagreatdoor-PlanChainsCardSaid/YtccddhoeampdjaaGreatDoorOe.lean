/- Chapter 9: plans: the program's check and value. -/
import Derived.Test.YtccddhoeampdjaaGreatDoorOd
set_option linter.unusedVariables false
set_option linter.unusedSimpArgs false
namespace Go.Proofs.YtccddhoeampdjaaGreatDoor
open Go.RowKit Go.Sym

/-! The first element that a test takes. -/
def idxF {α : Type} (p : α → Bool) (l : List α) : Int := if l.any p = true then (l.findIdx p : Int) else -1
theorem idxF_hit {α : Type} {p : α → Bool} {l : List α} {d : α} {k : Nat} (hk : k < l.length) (h : p (l.getD k d) = true) (hb : ∀ i : Nat, i < k → p (l.getD i d) = false) : idxF p l = k := by
  have e : ∀ i (hi : i < l.length), l.getD i d = l[i] := fun i hi => by rw [List.getD_eq_getElem?_getD, List.getElem?_eq_getElem hi]; rfl
  rw [e k hk] at h
  have ha : l.any p = true := List.any_eq_true.2 ⟨_, List.getElem_mem hk, h⟩
  have hf : l.findIdx p = k := by
    refine (List.findIdx_eq hk).2 ⟨h, fun j hj => ?_⟩
    have := hb j hj
    rwa [e j (by omega)] at this
  unfold idxF
  rw [if_pos ha, hf]
theorem idxF_none {α : Type} {p : α → Bool} {l : List α} {d : α} (hb : ∀ i : Nat, i < l.length → p (l.getD i d) = false) : idxF p l = -1 := by
  have ha : ¬ l.any p = true := by
    rw [Bool.not_eq_true, List.any_eq_false]
    intro x hx
    obtain ⟨i, hi, rfl⟩ := List.mem_iff_getElem.1 hx
    have := hb i hi
    rw [List.getD_eq_getElem?_getD, List.getElem?_eq_getElem hi] at this
    simpa using this
  unfold idxF
  rw [if_neg ha]
theorem idxF_sign {α : Type} (p : α → Bool) (l : List α) : decide (idxF p l ≥ 0) = l.any p := by
  unfold idxF
  cases h : l.any p with
  | true => rw [if_pos rfl]; exact decide_eq_true (by omega)
  | false => rw [if_neg (by simp)]; rfl
theorem any_false {α : Type} {p : α → Bool} {l : List α} {d : α} (h : l.any p = false) : ∀ k, k < l.length → p (l.getD k d) = false := by
  intro k hk
  rw [List.any_eq_false] at h
  have := h _ (List.getElem_mem hk)
  rw [List.getD_eq_getElem?_getD, List.getElem?_eq_getElem hk]
  simpa using this

def outB (n : Nat) (x : Int) : Bool := bif decide (x < -1) then true else decide (x ≥ n)
theorem outB_false {n : Nat} {x : Int} (h : outB n x = false) : -1 ≤ x ∧ x < n := by
  unfold outB at h
  by_cases h1 : x < -1 <;> by_cases h2 : x ≥ n <;> simp [h1, h2] at h <;> omega
def OutC_i (S : List Sec) (T : List Shf) (x : Int) (σ : Ren) : Inst := { f := 157, hin := [(0, .ro S.length 5 (secC S)), (1, .ro T.length 4 (shfC T)), (2, .rb 37 [.sl 0 S.length, .sl 1 T.length])], args := [i64 x, .ptr 2 0 0 0], hout := [], ret := bl (outB T.length x), σ := σ }
theorem OutC_s (S : List Sec) (T : List Shf) (x : Int) (σ : Ren) (hT : T.length ≤ 1000) : (OutC_i S T x σ).ok Tryz.prog := by
  unfold OutC_i Inst.ok; dsimp only; refine spec_of_body (tys := tys) 3 Tryz.func157 (by kernel_rfl) rfl tys_ok rfl (Nat.le_of_ble_eq_true rfl) (fun _ _ h => (by cases h)) fun F hP hm hC hrd => ?_; conv => whnf
  repeat first | refine lwp_seq fun K hK => ?_ | (with_reducible refine gA ?_; apply_assumption -exfalso -symm) | refine Stp.h ?_ | refine gF rfl ?_ | refine gG rfl ?_ | refine gM hC rfl sd ?_
  (refine end_intro (by first | exact .inr rfl | exact .inl rfl) [] rfl ?_)
  exact ⟨rfl, trivial⟩
def outIn (S : List Sec) (T : List Shf) (P : List Int) : List (Nat × Chunk) := [(0, .ro S.length 5 (secC S)), (1, .ro T.length 4 (shfC T)), (2, .rb 37 [.sl 0 S.length, .sl 1 T.length]), (3, .ro P.length 1 (.ints .i64 P))]
def IxO_i (S : List Sec) (T : List Shf) (P : List Int) (σ : Ren) : Inst := { f := 168, hin := outIn S T P, args := [.sl 3 P.length, .fn 157 [] [.ptr 2 0 0 0]], hout := [], ret := i64 (idxF (outB T.length) P), σ := σ }
set_option maxRecDepth 20000 in
theorem IxO_s (S : List Sec) (T : List Shf) (P : List Int) (σ : Ren) (hT : T.length ≤ 1000) (hPl : P.length ≤ 1000000) : (IxO_i S T P σ).ok Tryz.prog := by
  unfold IxO_i Inst.ok; dsimp only; refine spec_of_body (tys := tys) 4 Tryz.func168 (by kernel_rfl) rfl tys_ok rfl (Nat.le_of_ble_eq_true rfl) (fun _ _ h => (by cases h)) fun F hP hm hC hrd => ?_; conv => whnf
  repeat first | refine lwp_seq fun K hK => ?_ | (with_reducible refine gA ?_; apply_assumption -exfalso -symm) | refine Stp.h ?_ | refine gF rfl ?_ | refine gG rfl ?_ | refine gM hC rfl sd ?_
  refine lwp_loop (fun k : Nat => ⟨[(8, i64 k), (7, i64 P.length), (0, .sl 3 P.length), (1, .fn 157 [] [.ptr 2 0 0 0])], [(0, .ro S.length 5 (secC S)), (1, .ro T.length 4 (shfC T)), (2, .rb 37 [.sl 0 S.length, .sl 1 T.length]), (3, .ro P.length 1 (.ints .i64 P))], 4⟩) (fun k => k ≤ P.length ∧ ∀ i : Nat, i < k → outB T.length (P.getD i 0) = false) (fun k => P.length - k) 0 ⟨?_, sub_intro hm [(0, some 0), (1, some 1), (2, some 2), (3, some 3)] rfl ?_⟩ ?_
  · exact ⟨Nat.zero_le _, fun i hi => absurd hi (Nat.not_lt_zero _)⟩
  · exact sd
  · rintro k ⟨hk, hf⟩
    have hkk : ((k : Int)).toNat = k := Int.toNat_natCast k
    have HF := Lib.hid hf
    clear hf
    repeat first | refine lwp_seq fun K hK => ?_ | (with_reducible refine gA ?_; apply_assumption -exfalso -symm) | refine Stp.h ?_ | refine gF rfl ?_ | refine gG rfl ?_ | refine gM hC rfl sd ?_
    refine lwp_condS hC rfl sd ?_ ?_ <;> intro hb
    · have hk2 : k < P.length := by omega
      repeat first | refine lwp_seq fun K hK => ?_ | (with_reducible refine gA ?_; apply_assumption -exfalso -symm) | refine Stp.h ?_ | refine gF rfl ?_ | refine gG rfl ?_ | refine gM hC rfl ⟨⟩ ?_
      (refine lwp_region hC ⟨[], [], [(5, OutC_i S T (P.getD k 0) [(0, some 0), (1, some 1), (2, some 2)])]⟩ (told1 _ (by rw [hP]; exact (calls_cons (OutC_s _ _ _ _ hT) calls_nil))) rfl ?_ ?_; rotate_left 1)
      · repeat first | refine lwp_seq fun K hK => ?_ | (with_reducible refine gA ?_; apply_assumption -exfalso -symm) | refine Stp.h ?_ | refine gF rfl ?_ | refine gG rfl ?_ | refine gM hC rfl sd ?_
        refine lwp_condS hC rfl sd ?_ ?_ <;> intro hb
        · have hE := idxF_hit hk2 hb HF.out
          repeat first | refine lwp_seq fun K hK => ?_ | (with_reducible refine gA ?_; apply_assumption -exfalso -symm) | refine Stp.h ?_ | refine gF rfl ?_ | refine gG rfl ?_ | refine gM hC rfl sd ?_
          (refine end_intro (by first | exact .inr rfl | exact .inl rfl) [] rfl ?_)
          rw [hE]
          exact sd
        · repeat first | refine lwp_seq fun K hK => ?_ | (with_reducible refine gA ?_; apply_assumption -exfalso -symm) | refine Stp.h ?_ | refine gF rfl ?_ | refine gG rfl ?_ | refine gM hC rfl sd ?_
          refine gA ⟨k + 1, ?_, ?_, sub_intro hm [(0, some 0), (1, some 1), (2, some 2), (3, some 3)] rfl ?_⟩
          · refine ⟨hk2, fun i hi => ?_⟩
            by_cases e : i = k
            · subst e; exact hb
            · exact HF.out i (by omega)
          · omega
          · exact sd
      · rw [hkk]
        exact sd
    · have hk3 : k = P.length := by omega
      subst hk3
      have hE := idxF_none HF.out
      repeat first | refine lwp_seq fun K hK => ?_ | (with_reducible refine gA ?_; apply_assumption -exfalso -symm) | refine Stp.h ?_ | refine gF rfl ?_ | refine gG rfl ?_ | refine gM hC rfl sd ?_
      (refine end_intro (by first | exact .inr rfl | exact .inl rfl) [] rfl ?_)
      rw [hE]
      exact sd
def CfO_i (S : List Sec) (T : List Shf) (P : List Int) (σ : Ren) : Inst := { f := 141, hin := outIn S T P, args := [.sl 3 P.length, .fn 157 [] [.ptr 2 0 0 0]], hout := [], ret := bl (P.any (outB T.length)), σ := σ }
theorem CfO_s (S : List Sec) (T : List Shf) (P : List Int) (σ : Ren) (hT : T.length ≤ 1000) (hPl : P.length ≤ 1000000) : (CfO_i S T P σ).ok Tryz.prog := by
  have hsg := idxF_sign (outB T.length) P
  unfold CfO_i Inst.ok; dsimp only; refine spec_of_body (tys := tys) 4 Tryz.func141 (by kernel_rfl) rfl tys_ok rfl (Nat.le_of_ble_eq_true rfl) (fun _ _ h => (by cases h)) fun F hP hm hC hrd => ?_; conv => whnf
  repeat first | refine lwp_seq fun K hK => ?_ | (with_reducible refine gA ?_; apply_assumption -exfalso -symm) | refine Stp.h ?_ | refine gF rfl ?_ | refine gG rfl ?_ | refine gM hC rfl ⟨⟩ ?_
  (refine lwp_region hC ⟨[], [], [(2, IxO_i S T P [(0, some 0), (1, some 1), (2, some 2), (3, some 3)])]⟩ (told1 _ (by rw [hP]; exact (calls_cons (IxO_s _ _ _ _ hT hPl) calls_nil))) rfl ?_ ?_; rotate_left 1)
  · repeat first | refine lwp_seq fun K hK => ?_ | (with_reducible refine gA ?_; apply_assumption -exfalso -symm) | refine Stp.h ?_ | refine gF rfl ?_ | refine gG rfl ?_ | refine gM hC rfl sd ?_
    (refine end_intro (by first | exact .inr rfl | exact .inl rfl) [] rfl ?_)
    refine ⟨?_, trivial⟩
    exact hsg.symm
  · exact sd

def lateAt (S : List Sec) (T : List Shf) (P : List Int) (i : Nat) : Int := if 0 ≤ P.getD i 0 ∧ inTimeB S T i (P.getD i 0).toNat = false then 23 else 0
def shAt (S : List Sec) (T : List Shf) (P : List Int) (n k : Nat) : Int := firstS [whenS (decide (leftH S T P k n < 0)) 4, whenS (decide (leftT S T P k n < 0)) 20]
def lateP (S : List Sec) (T : List Shf) (P : List Int) : Int := firstS ((List.range P.length).map (lateAt S T P))
def shP (S : List Sec) (T : List Shf) (P : List Int) : Int := firstS ((List.range T.length).map (shAt S T P P.length))
/-- The error of a plan of the first sections, by deadlines and shifts. -/
def fitE (S : List Sec) (T : List Shf) (P : List Int) : Int := firstS [lateP S T P, shP S T P]
def cpE (S : List Sec) (T : List Shf) (P : List Int) : Int := if P.length ≠ S.length then 2 else if P.any (outB T.length) = true then 10 else fitE S T P
theorem first_two (a b : Int) : firstS [a, b] = if a = 0 then b else a := by
  simp only [firstS]; split <;> (try split) <;> simp_all
def CPlan_i (S : List Sec) (T : List Shf) (P : List Int) (σ : Ren) : Inst := { f := 88, hin := planIn S T P, args := [ofA S T, .sl 2 P.length], hout := [], ret := i64 (cpE S T P), σ := σ }
set_option maxRecDepth 20000 in
set_option maxHeartbeats 4000000 in
theorem CPlan_s (S : List Sec) (T : List Shf) (P : List Int) (σ : Ren) (hB : OffB S T) (hPl : P.length ≤ 1000000) : (CPlan_i S T P σ).ok Tryz.prog := by
  have hS7 := hB.lS
  have hT5 := hB.lT
  have HB := Lib.hid hB
  clear hB
  unfold CPlan_i Inst.ok; dsimp only; refine spec_of_body (tys := tys) 3 Tryz.func88 (by kernel_rfl) rfl tys_ok rfl (Nat.le_of_ble_eq_true rfl) (fun _ _ h => (by cases h)) fun F hP hm hC hrd => ?_; conv => whnf
  repeat first | refine lwp_seq fun K hK => ?_ | (with_reducible refine gA ?_; apply_assumption -exfalso -symm) | refine Stp.h ?_ | refine gF rfl ?_ | refine gG rfl ?_ | refine gM hC rfl sd ?_
  refine lwp_condS hC rfl sd ?_ ?_ <;> intro hb
  · have e : cpE S T P = 2 := if_pos (by omega)
    repeat first | refine lwp_seq fun K hK => ?_ | (with_reducible refine gA ?_; apply_assumption -exfalso -symm) | refine Stp.h ?_ | refine gF rfl ?_ | refine gG rfl ?_ | refine gM hC rfl sd ?_
    (refine end_intro (by first | exact .inr rfl | exact .inl rfl) [] rfl ?_)
    rw [e]
    exact ⟨rfl, trivial⟩
  · have hl : P.length = S.length := by omega
    clear hb
    repeat first | refine lwp_seq fun K hK => ?_ | (with_reducible refine gA ?_; apply_assumption -exfalso -symm) | refine Stp.h ?_ | refine gF rfl ?_ | refine gG rfl ?_ | refine gM hC rfl sd ?_
    (refine lwp_region hC ⟨[], [], [(2, CfO_i S T P [(0, some 0), (1, some 1), (2, some 3), (3, some 2)])]⟩ (told1 _ (by rw [hP]; exact (calls_cons (CfO_s _ _ _ _ (by omega) hPl) calls_nil))) rfl ?_ ?_; rotate_left 1)
    · repeat first | refine lwp_seq fun K hK => ?_ | (with_reducible refine gA ?_; apply_assumption -exfalso -symm) | refine Stp.h ?_ | refine gF rfl ?_ | refine gG rfl ?_ | refine gM hC rfl sd ?_
      refine lwp_condS hC rfl sd ?_ ?_ <;> intro hb
      · have e : cpE S T P = 10 := by unfold cpE; rw [if_neg (by omega), if_pos hb]
        repeat first | refine lwp_seq fun K hK => ?_ | (with_reducible refine gA ?_; apply_assumption -exfalso -symm) | refine Stp.h ?_ | refine gF rfl ?_ | refine gG rfl ?_ | refine gM hC rfl sd ?_
        (refine end_intro (by first | exact .inr rfl | exact .inl rfl) [] rfl ?_)
        rw [e]
        exact ⟨rfl, trivial⟩
      · have e : cpE S T P = firstS [lateP S T P, shP S T P] := by unfold cpE; rw [if_neg (by omega), if_neg (by rw [hb]; decide)]; rfl
        have hO := any_false (d := 0) hb
        have E := Lib.hid e
        have HO := Lib.hid hO
        clear hb e hO
        repeat first | refine lwp_seq fun K hK => ?_ | (with_reducible refine gA ?_; apply_assumption -exfalso -symm) | refine Stp.h ?_ | refine gF rfl ?_ | refine gG rfl ?_ | refine gM hC rfl sd ?_
        refine lwp_loop (fun k : Nat => ⟨[(21, i64 k), (20, i64 P.length), (19, .sl 2 P.length), (1, .sl 2 P.length), (2, .ptr 3 0 0 0)], [(3, .blk 37 [.sl 0 S.length, .sl 1 T.length]), (0, .ro S.length 5 (secC S)), (1, .ro T.length 4 (shfC T)), (2, .ro P.length 1 (.ints .i64 P))], 4⟩) (fun k => k ≤ P.length ∧ lateP S T P = firstS (((List.range P.length).map (lateAt S T P)).drop k)) (fun k => P.length - k) 0 ⟨?_, sub_intro hm [(0, some 0), (1, some 1), (2, some 2), (3, some 3)] rfl ?_⟩ ?_
        · exact ⟨Nat.zero_le _, rfl⟩
        · exact sd
        · rintro k ⟨hk, hf⟩
          have HF := Lib.hid hf
          clear hf
          have hkk : ((k : Int)).toNat = k := Int.toNat_natCast k
          repeat first | refine lwp_seq fun K hK => ?_ | (with_reducible refine gA ?_; apply_assumption -exfalso -symm) | refine Stp.h ?_ | refine gF rfl ?_ | refine gG rfl ?_ | refine gM hC rfl sd ?_
          refine lwp_condS hC rfl sd ?_ ?_ <;> intro hb
          · have hk2 : k < P.length := by omega
            have ho := outB_false (HO.out k hk2)
            repeat first | refine lwp_seq fun K hK => ?_ | (with_reducible refine gA ?_; apply_assumption -exfalso -symm) | refine Stp.h ?_ | refine gF rfl ?_ | refine gG rfl ?_ | refine gM hC rfl sd ?_
            rw [hkk]
            by_cases hge : 0 ≤ P.getD k 0
            · (refine lwp_region hC ⟨[(2, { b := some true })], [], [(6, InT_i S T k (P.getD k 0).toNat [(0, some 0), (1, some 1)])]⟩ (told1 _ (by rw [hP]; exact (calls_cons (InT_s _ _ _ _ _ (by omega) (by omega) (by omega) (by omega)) calls_nil))) rfl ?_ ?_; rotate_left 1)
              · repeat first | refine lwp_seq fun K hK => ?_ | (with_reducible refine gA ?_; apply_assumption -exfalso -symm) | refine Stp.h ?_ | refine gF rfl ?_ | refine gG rfl ?_ | refine gM hC rfl ⟨⟩ ?_
                refine lwp_condS hC rfl sd ?_ ?_ <;> intro hb
                · have hb : inTimeB S T k (P.getD k 0).toNat = false := by simpa using hb
                  have e1 : lateAt S T P k = 23 := if_pos ⟨hge, hb⟩
                  have hf := HF.out
                  rw [firstR_drop _ _ _ hk2, e1, if_neg (by decide)] at hf
                  have e := E.out
                  rw [hf, first_two, if_neg (by decide)] at e
                  clear hf HF E hb e1
                  repeat first | refine lwp_seq fun K hK => ?_ | (with_reducible refine gA ?_; apply_assumption -exfalso -symm) | refine Stp.h ?_ | refine gF rfl ?_ | refine gG rfl ?_ | refine gM hC rfl sd ?_
                  (refine end_intro (by first | exact .inr rfl | exact .inl rfl) [] rfl ?_)
                  rw [e]
                  exact ⟨rfl, trivial⟩
                · have hb : inTimeB S T k (P.getD k 0).toNat = true := by simpa using hb
                  have e1 : lateAt S T P k = 0 := if_neg (fun h => by rw [hb] at h; exact absurd h.2 (by decide))
                  have hf := HF.out
                  rw [firstR_drop _ _ _ hk2, if_pos e1] at hf
                  have HG := Lib.hid hf
                  clear hf HF hb e1
                  repeat first | refine lwp_seq fun K hK => ?_ | (with_reducible refine gA ?_; apply_assumption -exfalso -symm) | refine Stp.h ?_ | refine gF rfl ?_ | refine gG rfl ?_ | refine gM hC rfl sd ?_
                  refine gA ⟨k + 1, ?_, ?_, sub_intro hm [(0, some 0), (1, some 1), (2, some 2), (3, some 3)] rfl ?_⟩
                  · exact ⟨by omega, HG.out⟩
                  · omega
                  · exact sd
              · exact sd
            · (refine lwp_region hC ⟨[(2, { b := some false }), (3, { g := some false }), (4, { g := some false }), (5, { g := some false }), (6, { g := some false }), (7, { g := some false })], [], []⟩ (told0 _ _) rfl ?_ ?_; rotate_left 1)
              · have e1 : lateAt S T P k = 0 := if_neg (fun h => hge h.1)
                have hf := HF.out
                rw [firstR_drop _ _ _ hk2, if_pos e1] at hf
                have HG := Lib.hid hf
                clear hf HF e1
                repeat first | refine lwp_seq fun K hK => ?_ | (with_reducible refine gA ?_; apply_assumption -exfalso -symm) | refine Stp.h ?_ | refine gF rfl ?_ | refine gG rfl ?_ | refine gM hC rfl ⟨⟩ ?_
                refine lwp_condS hC rfl sd ?_ ?_ <;> intro hb
                · exact absurd hb (by decide)
                · repeat first | refine lwp_seq fun K hK => ?_ | (with_reducible refine gA ?_; apply_assumption -exfalso -symm) | refine Stp.h ?_ | refine gF rfl ?_ | refine gG rfl ?_ | refine gM hC rfl sd ?_
                  refine gA ⟨k + 1, ?_, ?_, sub_intro hm [(0, some 0), (1, some 1), (2, some 2), (3, some 3)] rfl ?_⟩
                  · exact ⟨by omega, HG.out⟩
                  · omega
                  · exact sd
              · exact sd
          · obtain rfl : k = P.length := by omega
            have hf := HF.out
            rw [firstR_all] at hf
            have e := E.out
            rw [hf, first_two, if_pos rfl] at e
            have E2 := Lib.hid e
            clear hf HF E e hb hkk
            repeat first | refine lwp_seq fun K hK => ?_ | (with_reducible refine gA ?_; apply_assumption -exfalso -symm) | refine Stp.h ?_ | refine gF rfl ?_ | refine gG rfl ?_ | refine gM hC rfl sd ?_
            refine lwp_loop (fun k : Nat => ⟨[(39, i64 k), (38, i64 T.length), (37, .sl 1 T.length), (1, .sl 2 P.length), (2, .ptr 3 0 0 0)], [(3, .blk 37 [.sl 0 S.length, .sl 1 T.length]), (0, .ro S.length 5 (secC S)), (1, .ro T.length 4 (shfC T)), (2, .ro P.length 1 (.ints .i64 P))], 4⟩) (fun k => k ≤ T.length ∧ shP S T P = firstS (((List.range T.length).map (shAt S T P P.length)).drop k)) (fun k => T.length - k) 0 ⟨?_, sub_intro hm [(0, some 0), (1, some 1), (2, some 2), (3, some 3)] rfl ?_⟩ ?_
            · exact ⟨Nat.zero_le _, rfl⟩
            · exact sd
            · clear hk
              rintro k ⟨hk, hf⟩
              have HF := Lib.hid hf
              clear hf
              repeat first | refine lwp_seq fun K hK => ?_ | (with_reducible refine gA ?_; apply_assumption -exfalso -symm) | refine Stp.h ?_ | refine gF rfl ?_ | refine gG rfl ?_ | refine gM hC rfl sd ?_
              refine lwp_condS hC rfl sd ?_ ?_ <;> intro hb
              · have hk2 : k < T.length := by omega
                repeat first | refine lwp_seq fun K hK => ?_ | (with_reducible refine gA ?_; apply_assumption -exfalso -symm) | refine Stp.h ?_ | refine gF rfl ?_ | refine gG rfl ?_ | refine gM hC rfl sd ?_
                (refine lwp_region hC ⟨[], [], [(3, Left_i S T P k [(0, some 0), (1, some 1), (2, some 2)])]⟩ (told1 _ (by rw [hP]; exact (calls_cons (Left_s _ _ _ _ _ HB.out (by omega) hk2) calls_nil))) rfl ?_ ?_; rotate_left 1)
                · repeat first | refine lwp_seq fun K hK => ?_ | (with_reducible refine gA ?_; apply_assumption -exfalso -symm) | refine Stp.h ?_ | refine gF rfl ?_ | refine gG rfl ?_ | refine gM hC rfl sd ?_
                  (refine lwp_drawn hC (by rw [hP]; exact mixed) ⟨[], [], [(3, PWhen_i (decide (leftH S T P k P.length < 0)) 4), (7, PWhen_i (decide (leftT S T P k P.length < 0)) 20), (9, PFirst_i [whenS (decide (leftH S T P k P.length < 0)) 4, whenS (decide (leftT S T P k P.length < 0)) 20] [(0, some 6)])]⟩ (told1 _ (by rw [hP]; exact (calls_cons (PWhen_s _ _) (calls_cons (PWhen_s _ _) (calls_cons (PFirst_s _ _ (by simp)) calls_nil))))) [0, 1, 3, 7, 0, 16, 48, 127, 255, 511, 1023] 7 rfl ?_ ?_; rotate_left 1)
                  · repeat first | refine lwp_seq fun K hK => ?_ | (with_reducible refine gA ?_; apply_assumption -exfalso -symm) | refine Stp.h ?_ | refine gF rfl ?_ | refine gG rfl ?_ | refine gM hC rfl sd ?_
                    refine lwp_condS hC rfl sd ?_ ?_ <;> intro hb
                    · have hne : ¬ shAt S T P P.length k = 0 := hb
                      have hf := HF.out
                      rw [firstR_drop _ _ _ hk2, if_neg hne, ← E2.out] at hf
                      have HE := Lib.hid hf
                      clear hf HF E2 hne
                      repeat first | refine lwp_seq fun K hK => ?_ | (with_reducible refine gA ?_; apply_assumption -exfalso -symm) | refine Stp.h ?_ | refine gF rfl ?_ | refine gG rfl ?_ | refine gM hC rfl sd ?_
                      (refine end_intro (by first | exact .inr rfl | exact .inl rfl) [] rfl ?_)
                      rw [HE.out]
                      exact ⟨rfl, trivial⟩
                    · have h0 : shAt S T P P.length k = 0 := hb
                      have hf := HF.out
                      rw [firstR_drop _ _ _ hk2, if_pos h0] at hf
                      have HG := Lib.hid hf
                      clear hf HF hb h0
                      repeat first | refine lwp_seq fun K hK => ?_ | (with_reducible refine gA ?_; apply_assumption -exfalso -symm) | refine Stp.h ?_ | refine gF rfl ?_ | refine gG rfl ?_ | refine gM hC rfl sd ?_
                      refine gA ⟨k + 1, ?_, ?_, sub_intro hm [(0, some 0), (1, some 1), (2, some 2), (3, some 3)] rfl ?_⟩
                      · exact ⟨by omega, HG.out⟩
                      · omega
                      · exact sd
                  · exact sd
                · exact sd
              · obtain rfl : k = T.length := by omega
                have hf := HF.out
                rw [firstR_all, ← E2.out] at hf
                have HE := Lib.hid hf
                clear hf HF
                repeat first | refine lwp_seq fun K hK => ?_ | (with_reducible refine gA ?_; apply_assumption -exfalso -symm) | refine Stp.h ?_ | refine gF rfl ?_ | refine gG rfl ?_ | refine gM hC rfl sd ?_
                (refine end_intro (by first | exact .inr rfl | exact .inl rfl) [] rfl ?_)
                rw [HE.out]
                exact ⟨rfl, trivial⟩
    · exact sd

def valV (S : List Sec) (P : List Int) : Nat → Int
  | 0 => 0
  | n + 1 => valV S P n + (if 0 ≤ P.getD n 0 then (S.getD n secD).vl else 0)
def valC (S : List Sec) (T : List Shf) (P : List Int) : Nat → Int
  | 0 => 0
  | n + 1 => valC S T P n + (if 0 ≤ P.getD n 0 then (S.getD n secD).wk * (T.getD (P.getD n 0).toNat shfD).rt else 0)
theorem wkrt_in {S : List Sec} {T : List Shf} (h : OffB S T) (n k : Nat) : 0 ≤ (S.getD n secD).wk * (T.getD k shfD).rt ∧ (S.getD n secD).wk * (T.getD k shfD).rt ≤ 1000000 := by
  have h1 := h.wk n
  have h2 := h.rt k
  refine ⟨Int.mul_nonneg h1.1 h2.1, ?_⟩
  have := Int.mul_le_mul h1.2 h2.2 h2.1 (by decide)
  omega
theorem val_in {S : List Sec} {T : List Shf} {P : List Int} (h : OffB S T) : ∀ n : Nat, (0 ≤ valV S P n ∧ valV S P n ≤ n * 1000000) ∧ 0 ≤ valC S T P n ∧ valC S T P n ≤ n * 1000000
  | 0 => by simp [valV, valC]
  | n + 1 => by
    have h1 := val_in (P := P) h n
    have h2 := h.vl n
    have h3 := wkrt_in h n (P.getD n 0).toNat
    simp only [valV, valC]
    split <;> omega
def Told_i (S : List Sec) (T : List Shf) (P : List Int) (σ : Ren) : Inst := { f := 86, hin := planIn S T P, args := [ofA S T, .sl 2 P.length], hout := [], ret := .agg [i64 (valV S P P.length), i64 (valC S T P P.length)], σ := σ }
set_option maxRecDepth 20000 in
theorem Told_s (S : List Sec) (T : List Shf) (P : List Int) (σ : Ren) (hB : OffB S T) (hP : P.length ≤ S.length) (hO : ∀ k, k < P.length → P.getD k 0 < T.length) : (Told_i S T P σ).ok Tryz.prog := by
  have hS7 := hB.lS
  have hT5 := hB.lT
  have HB := Lib.hid hB
  have HO := Lib.hid hO
  clear hB hO
  unfold Told_i Inst.ok; dsimp only; refine spec_of_body (tys := tys) 3 Tryz.func86 (by kernel_rfl) rfl tys_ok rfl (Nat.le_of_ble_eq_true rfl) (fun _ _ h => (by cases h)) fun F hP hm hC hrd => ?_; conv => whnf
  repeat first | refine lwp_seq fun K hK => ?_ | (with_reducible refine gA ?_; apply_assumption -exfalso -symm) | refine Stp.h ?_ | refine gF rfl ?_ | refine gG rfl ?_ | refine gM hC rfl sd ?_
  refine lwp_loop (fun n : Nat => ⟨[(10, i64 n), (9, i64 P.length), (8, .sl 2 P.length), (2, .ptr 3 0 0 0), (4, .ptr 4 0 0 0), (5, .ptr 5 0 0 0)], [(5, .blk 30 [i64 (valV S P n), i64 (valC S T P n)]), (4, .blk 30 [i64 0, i64 0]), (3, .blk 37 [.sl 0 S.length, .sl 1 T.length]), (0, .ro S.length 5 (secC S)), (1, .ro T.length 4 (shfC T)), (2, .ro P.length 1 (.ints .i64 P))], 6⟩) (fun n => n ≤ P.length) (fun n => P.length - n) 0 ⟨?_, sub_intro hm [(0, some 0), (1, some 1), (2, some 2), (3, some 3), (4, some 4), (5, some 5)] rfl ?_⟩ ?_
  · exact Nat.zero_le _
  · have e1 : valV S P 0 = 0 := rfl
    have e2 : valC S T P 0 = 0 := rfl
    rw [e1, e2]
    exact sd
  · rintro n hn
    have hnn : ((n : Int)).toNat = n := Int.toNat_natCast n
    repeat first | refine lwp_seq fun K hK => ?_ | (with_reducible refine gA ?_; apply_assumption -exfalso -symm) | refine Stp.h ?_ | refine gF rfl ?_ | refine gG rfl ?_ | refine gM hC rfl sd ?_
    refine lwp_condS hC rfl sd ?_ ?_ <;> intro hb
    · have hi := val_in (P := P) HB.out n
      have hv := HB.out.vl n
      have hw := wkrt_in HB.out n (P.getD n 0).toNat
      have ho := HO.out n (by omega)
      have hnS : n < S.length := by omega
      repeat first | refine lwp_seq fun K hK => ?_ | (with_reducible refine gA ?_; apply_assumption -exfalso -symm) | refine Stp.h ?_ | refine gF rfl ?_ | refine gG rfl ?_ | refine gM hC rfl sd ?_
      rw [hnn]
      refine lwp_condS hC rfl sd ?_ ?_ <;> intro hb
      · have hb : 0 ≤ P.getD n 0 := hb
        have e1 : valV S P (n + 1) = valV S P n + (S.getD n secD).vl := by simp only [valV, if_pos hb]
        have e2 : valC S T P (n + 1) = valC S T P n + (S.getD n secD).wk * (T.getD (P.getD n 0).toNat shfD).rt := by simp only [valC, if_pos hb]
        repeat first | refine lwp_seq fun K hK => ?_ | (with_reducible refine gA ?_; apply_assumption -exfalso -symm) | refine Stp.h ?_ | refine gF rfl ?_ | refine gG rfl ?_ | refine gM hC rfl ⟨⟩ ?_
        (refine lwp_drawn hC (by rw [hP]; exact mixed) ⟨[], [], []⟩ (told0 _ _) [0, 1, 0, 4, 0, 28, 60, 124, 255, 511, 1023] 8 rfl ?_ ?_; rotate_left 1)
        · rw [hnn]
          repeat first | refine lwp_seq fun K hK => ?_ | (with_reducible refine gA ?_; apply_assumption -exfalso -symm) | refine Stp.h ?_ | refine gF rfl ?_ | refine gG rfl ?_ | refine gM hC rfl ⟨⟩ ?_
          (refine lwp_drawn hC (by rw [hP]; exact mixed) ⟨[], [], []⟩ (told0 _ _) [0, 1, 0, 4, 0, 28, 60, 124, 0, 256, 0, 1792, 3840, 7936, 16380, 32767, 65535, 131071] 15 rfl ?_ ?_; rotate_left 1)
          · rw [hnn]
            repeat first | refine lwp_seq fun K hK => ?_ | (with_reducible refine gA ?_; apply_assumption -exfalso -symm) | refine Stp.h ?_ | refine gF rfl ?_ | refine gG rfl ?_ | refine gM hC rfl sd ?_
            refine gA ⟨n + 1, ?_, ?_, sub_intro hm [(0, some 0), (1, some 1), (2, some 2), (3, some 3), (4, some 4), (5, some 5)] rfl ?_⟩
            · omega
            · omega
            · rw [e1, e2]
              exact sd
          · rw [hnn]
            exact sd
        · rw [hnn]
          exact sd
      · have hb : ¬ 0 ≤ P.getD n 0 := hb
        have e1 : valV S P (n + 1) = valV S P n := by simp only [valV, if_neg hb, Int.add_zero]
        have e2 : valC S T P (n + 1) = valC S T P n := by simp only [valC, if_neg hb, Int.add_zero]
        repeat first | refine lwp_seq fun K hK => ?_ | (with_reducible refine gA ?_; apply_assumption -exfalso -symm) | refine Stp.h ?_ | refine gF rfl ?_ | refine gG rfl ?_ | refine gM hC rfl sd ?_
        refine gA ⟨n + 1, ?_, ?_, sub_intro hm [(0, some 0), (1, some 1), (2, some 2), (3, some 3), (4, some 4), (5, some 5)] rfl ?_⟩
        · omega
        · omega
        · rw [e1, e2]
          exact sd
    · obtain rfl : n = P.length := by omega
      repeat first | refine lwp_seq fun K hK => ?_ | (with_reducible refine gA ?_; apply_assumption -exfalso -symm) | refine Stp.h ?_ | refine gF rfl ?_ | refine gG rfl ?_ | refine gM hC rfl sd ?_
      (refine end_intro (by first | exact .inr rfl | exact .inl rfl) [] rfl ?_)
      exact ⟨rfl, rfl, trivial⟩

end Go.Proofs.YtccddhoeampdjaaGreatDoor
