/- Chapter 9: Plan, the program's. -/
import Derived.Test.YtccddhoeampdjaaGreatDoorNb
set_option linter.unusedVariables false
set_option linter.unusedSimpArgs false
namespace Go.Proofs.YtccddhoeampdjaaGreatDoor
open Go.RowKit Go.Sym

theorem lops_head {cfg : Cfg} {F : Frm} (hC : CfgOk F cfg) {t : Sym.Told} (ht : t.ok F.P) {id : Nat} {ops : Array Oper} (j : Nat) (idx : List Nat) {T : List (Nat × AV)} {H : List (Nat × Chunk)} {nx : Nat} {s : St} {css : List (List Cd)} {Q : Exit → St → Prop}
    (h : runOps cfg t ops.toList 0 (ops.toList.take j) T H nx [] = some (s, css)) (he : List.range' 0 (ops.toList.take j).length ++ idx = List.range' 0 ops.toList.length) (hc : AllL css) (hq : LOPS F ops idx Q s) : LWP F (.region id ops false) Q ⟨T, H, nx⟩ := lops_region ⟨fun ρ a w hs => by
  have := runOps_then hC ht (idx := idx) (fun j' o e => by
    rw [List.getElem?_take] at e
    split at e
    · rw [Array.getElem?_toList] at e; simpa using e
    · cases e) h hc hq hs
  rw [he] at this
  exact this⟩

theorem lwp_meet {F : Frm} {x : Code} {Q : Exit → St → Prop} {s : St} (t : St) (h1 : LWP F x (thenS (fun s' => Sub F s' t) fun _ _ => False) s) (h2 : Q .normal t) : LWP F x Q s :=
  ⟨fun ρ a w hs => wpIn_mono (h1.out ρ a w hs) fun e a w ⟨s', ρ', h, hs'⟩ => by
    cases e with
    | normal =>
      obtain ⟨ρ1, h3⟩ := h ρ' a w hs'
      exact ⟨t, ρ1, h2, h3⟩
    | _ => exact h.elim⟩
theorem lwp_code {F : Frm} {x y : Code} {Q : Exit → St → Prop} {s : St} (e : x = y) (h : LWP F x Q s) : LWP F y Q s := e ▸ h

def plB (S : List Sec) (T : List Shf) (i : Nat) : Option (List Int) := bst (valP S T) (fitB S T) ((allL T.length S.length).take i)
theorem plB_step {S : List Sec} {T : List Shf} {i : Nat} (hi : i < (allL T.length S.length).length) : plB S T (i + 1) = comb (valP S T) (plB S T i) (optF (fitB S T) ((allL T.length S.length).getD i [])) := by
  unfold plB
  rw [← bst_snoc]
  congr 1
  rw [List.take_add_one, List.getElem?_eq_getElem hi]
  simp [List.getD_eq_getElem?_getD, hi]
theorem plB_len {S : List Sec} {T : List Shf} {i : Nat} {p : List Int} (h : plB S T i = some p) : p.length = S.length := (allL_mem.1 (List.mem_of_mem_take (bst_is h).1)).1
theorem plB_all {S : List Sec} {T : List Shf} (hB : OffB S T) : plB S T (allL T.length S.length).length = some (bestP S T) := by
  obtain ⟨p, h1, _⟩ := begP_is (d := S.length) (fitB_nil hB)
  unfold plB bestP
  rw [List.take_length, ← begP_nil, h1]
  rfl
theorem any_none0 {p : Int → Bool} {l : List Int} (h : ∀ k, k < l.length → p (l.getD k 0) = false) : l.any p = false := by
  rw [List.any_eq_false]
  intro x hx
  obtain ⟨k, hk, rfl⟩ := List.mem_iff_getElem.1 hx
  have := h k hk
  rw [List.getD_eq_getElem?_getD, List.getElem?_eq_getElem hk, Option.getD_some] at this
  rw [this]; simp
theorem cpE_fit {S : List Sec} {T : List Shf} {P : List Int} (h1 : P.length = S.length) (h2 : ∀ k, k < S.length → -1 ≤ P.getD k 0 ∧ P.getD k 0 < T.length) : cpE S T P = fitE S T P := by
  unfold cpE
  rw [if_neg (by omega), if_neg]
  rw [Bool.not_eq_true]
  refine any_none0 fun k hk => ?_
  obtain ⟨a, b⟩ := h2 k (by omega)
  unfold outB
  rw [decide_eq_false (show ¬ P.getD k 0 < -1 by omega), decide_eq_false (show ¬ P.getD k 0 ≥ T.length by omega)]
  rfl

/-- What is known around the range. -/
def plT (S : List Sec) (T : List Shf) : List (Nat × AV) := [(25, .fn 156 [] [.ptr 10 0 0 0, .ptr 9 0 0 0]), (1, .ptr 2 0 0 0), (3, .ptr 3 0 0 0), (6, .ptr 5 0 0 0), (7, .ptr 7 0 0 0)]
def plH (S : List Sec) (T : List Shf) (b : Bool) (v : Int × Int) (B : List Int) : List (Nat × Chunk) := [(4, .row 3 S.length 1 (.ints .i64 B)), (5, .blk 167 [i64 v.1, i64 v.2, .sl 4 S.length]), (7, .blk 4 [bl b]), (2, .blk 37 [.sl 0 S.length, .sl 1 T.length]), (3, .blk 30 [i64 0, i64 0]), (9, .blk 37 [.sl 0 S.length, .sl 1 T.length]), (10, .blk 3 [i64 S.length]), (0, .ro S.length 5 (secC S)), (1, .ro T.length 4 (shfC T))]
def planEr (S : List Sec) (T : List Shf) : List Int := if offE S T = 0 then bestP S T else []
def planVr (S : List Sec) (T : List Shf) : Int × Int := if offE S T = 0 then valP S T (bestP S T) else (0, 0)
def rowB (S : List Sec) (T : List Shf) (i : Nat) : List Int := (plB S T i).getD (List.replicate S.length 0)
def vlB (S : List Sec) (T : List Shf) (i : Nat) : Int × Int := match plB S T i with | none => (0, 0) | some p => valP S T p
theorem plB_nx {S : List Sec} {T : List Shf} {i : Nat} {P : List Int} (hp : plB S T (i + 1) = plB S T i) : ((plB S T (i + 1)).isSome = (plB S T i).isSome ∧ vlB S T (i + 1) = vlB S T i) ∧ rowB S T (i + 1) = rowB S T i := by
  unfold vlB rowB; rw [hp]; exact ⟨⟨rfl, rfl⟩, rfl⟩
theorem plB_keep {S : List Sec} {T : List Shf} {i : Nat} {P : List Int} (hs : plB S T (i + 1) = comb (valP S T) (plB S T i) (optF (fitB S T) P)) (h : fitE S T P ≠ 0 ∨ (plB S T i).isSome = true ∧ bet (valP S T P) (vlB S T i) = false) : ((plB S T (i + 1)).isSome = (plB S T i).isSome ∧ vlB S T (i + 1) = vlB S T i) ∧ rowB S T (i + 1) = rowB S T i := by
  refine plB_nx (P := P) ?_
  rw [hs]
  unfold optF fitB
  rcases h with h | ⟨h1, h2⟩
  · rw [show (fitE S T P == 0) = false by simpa using h]
    exact comb_none _ _
  · unfold vlB at h2
    cases hpl : plB S T i with
    | none => rw [hpl] at h1; cases h1
    | some p =>
      rw [hpl] at h2
      dsimp only at h2
      by_cases hf : (fitE S T P == 0) = true
      · rw [if_pos hf]
        show (if bet _ _ = true then some P else some p) = _
        rw [h2]; rfl
      · rw [if_neg hf]; exact comb_none _ _
theorem plB_take {S : List Sec} {T : List Shf} {i : Nat} {P : List Int} (hs : plB S T (i + 1) = comb (valP S T) (plB S T i) (optF (fitB S T) P)) (hf : fitE S T P = 0) (h : (plB S T i).isSome = false ∨ bet (valP S T P) (vlB S T i) = true) : ((plB S T (i + 1)).isSome = true ∧ vlB S T (i + 1) = (valV S P P.length, valC S T P P.length)) ∧ rowB S T (i + 1) = P := by
  have e : plB S T (i + 1) = some P := by
    rw [hs]
    unfold optF fitB
    rw [hf]
    unfold vlB at h
    cases hpl : plB S T i with
    | none => rfl
    | some p =>
      rw [hpl] at h
      dsimp only [Option.isSome] at h
      rcases h with h | h
      · cases h
      · show (if bet _ _ = true then some P else some p) = _
        rw [h]; rfl
  unfold vlB rowB
  rw [e]
  exact ⟨⟨rfl, rfl⟩, rfl⟩
theorem rowB_len {S : List Sec} {T : List Shf} (i : Nat) : (rowB S T i).length = S.length := by
  unfold rowB
  cases e : plB S T i with
  | none => simp
  | some p => exact plB_len e
theorem copied {P B : List Int} {n : Nat} (h1 : P.length = n) (h2 : B.length = n) : P.take (Nat.min n n) ++ B.drop (Nat.min n n) = P := by
  rw [show Nat.min n n = n from Nat.min_self n, List.take_of_length_le (by omega), List.drop_of_length_le (by omega), List.append_nil]
def PlanF_i (S : List Sec) (T : List Shf) (σ : Ren) : Inst := { f := 18, hin := offIn S T, args := [ofA S T], hout := [(2, .row 3 (planEr S T).length 1 (.ints .i64 (planEr S T)))], ret := .tup [.sl 2 (planEr S T).length, .agg [i64 (planVr S T).1, i64 (planVr S T).2], i64 (offE S T)], σ := σ }
set_option maxRecDepth 20000 in
set_option maxHeartbeats 8000000 in
theorem PlanF_s (S : List Sec) (T : List Shf) (σ : Ren) (hS : S.length ≤ 1000000) (hT : T.length ≤ 1000000) : (PlanF_i S T σ).ok Tryz.prog := by
  unfold PlanF_i
  by_cases hz : offE S T = 0
  · have hB := offB hz
    have e1 : planEr S T = bestP S T := if_pos hz
    have e2 : planVr S T = valP S T (bestP S T) := if_pos hz
    have hlast := plB_all hB
    have e3 : (bestP S T).length = S.length := plB_len hlast
    have hS7 := hB.lS
    have hT5 := hB.lT
    rw [e1, e2, hz, e3]
    have hstep := fun i => @plB_step S T i
    have hp0 : plB S T 0 = none := rfl
    have hat := allL_at T.length S.length
    have hget := fun i => @allL_get T.length S.length i
    have hfirst := allL_first T.length S.length
    have hrow : ∀ i, rowB S T i = (plB S T i).getD (List.replicate S.length 0) := fun _ => rfl
    have hvl : ∀ i, vlB S T i = match plB S T i with | none => (0, 0) | some p => valP S T p := fun _ => rfl
    have hplen := fun i p => @plB_len S T i p
    obtain ⟨L, hL⟩ : ∃ L, allL T.length S.length = L := ⟨_, rfl⟩
    rw [hL] at hstep hat hget hfirst hlast
    have HB := Lib.hid hB
    have HS := Lib.hid hstep
    have HA := Lib.hid hat
    have HG := Lib.hid hget
    have H0 := Lib.hid hfirst
    have HL := Lib.hid hlast
    have HE := Lib.hid hz
    have HR := Lib.hid hrow
    have HV := Lib.hid hvl
    have HP0 := Lib.hid hp0
    have HPL := Lib.hid hplen
    clear hB hstep hat hget hfirst hlast e1 e2 e3 hL hrow hvl hp0 hplen
    unfold Inst.ok; dsimp only; refine spec_of_body (tys := tys) 2 Tryz.func18 (by kernel_rfl) rfl tys_ok rfl (Nat.le_of_ble_eq_true rfl) (fun _ _ h => (by cases h)) fun F hP hm hC hrd => ?_; conv => whnf
    repeat first | refine lwp_seq fun K hK => ?_ | (with_reducible refine gA ?_; apply_assumption -exfalso -symm) | refine Stp.h ?_ | refine gF rfl ?_ | refine gG rfl ?_ | refine gM hC rfl sd ?_
    (refine lwp_region hC ⟨[], [], [(1, Off_i S T [(0, some 0), (1, some 1)])]⟩ (told1 _ (by rw [hP]; exact (calls_cons (Off_s _ _ _ hS hT) calls_nil))) rfl ?_ ?_; rotate_left 1)
    · repeat first | refine lwp_seq fun K hK => ?_ | (with_reducible refine gA ?_; apply_assumption -exfalso -symm) | refine Stp.h ?_ | refine gF rfl ?_ | refine gG rfl ?_ | refine gM hC rfl sd ?_
      refine lwp_condS hC rfl sd ?_ ?_ <;> intro hb
      · exact absurd hz hb
      · repeat first | refine lwp_seq fun K hK => ?_ | (with_reducible refine gA ?_; apply_assumption -exfalso -symm) | refine Stp.h ?_ | refine gF rfl ?_ | refine gG rfl ?_ | refine gM hC rfl sd ?_
        (refine lwp_region hC ⟨[], [], [(4, Choice_i S T S.length [(0, some 0), (1, some 1)])]⟩ (told1 _ (by rw [hP]; exact (calls_cons (Choice_s _ _ _ _) calls_nil))) rfl ?_ ?_; rotate_left 1)
        · repeat first | refine lwp_seq fun K hK => ?_ | (with_reducible refine gA ?_; apply_assumption -exfalso -symm) | refine Stp.h ?_ | refine gF rfl ?_ | refine gG rfl ?_
          refine lwp_sub (t := ⟨plT S T, plH S T (plB S T 0).isSome (vlB S T 0) (rowB S T 0), 11⟩) (sub_intro hm [(0, some 0), (1, some 1), (2, some 2), (3, some 3), (4, some 4), (5, some 5), (7, some 7), (9, some 9), (10, some 10)] rfl ?_) ?_
          · exact sd
          · (have hCo := hC; have hmo := hm; have hPo := hP; have hrdo := hrd; refine lwp_rangeG fun AS BD hAS hBD => ?_; refine lwp_range hC hrd (f := 156) rfl ⟨⟩ (by rw [hP]; exact Tryz.func156) rfl rfl rfl rfl rfl fun F1 hP1 hm1 hC1 hrd1 => ?_; have hP := hP1.trans hP; have hm := hm1; have hC := hC1; have hrd := hrd1; clear hP1 hm1 hC1 hrd1; dsimp only at hC; conv => whnf)
            repeat first | refine lwp_seq fun K hK => ?_ | (with_reducible refine gA ?_; apply_assumption -exfalso -symm) | refine Stp.h ?_ | refine gF rfl ?_ | refine gG rfl ?_
            (refine lwp_region hC ⟨[], [], [(2, NRepeat_i (-1) S.length [(0, some 12)])]⟩ (told1 _ (by rw [hP]; exact (calls_cons (NRepeat_s _ _ _ hS) calls_nil))) rfl ?_ ?_; rotate_left 1)
            · rw [← H0.out.2]
              repeat first | refine lwp_seq fun K hK => ?_ | (with_reducible refine gA ?_; apply_assumption -exfalso -symm) | refine Stp.h ?_ | refine gF rfl ?_ | refine gG rfl ?_
              refine lwp_loop (fun i : Nat => ⟨[(0, .yld 11), (1, .ptr 10 0 0 0), (2, .ptr 9 0 0 0), (4, .sl 13 S.length)], (11, .obj (.rcd (plT S T) 59 #[26] AS BD .ready)) :: (13, .row 3 S.length 1 (.ints .i64 (L.getD i []))) :: plH S T (plB S T i).isSome (vlB S T i) (rowB S T i), 14⟩) (fun i => i < L.length) (fun i => L.length - i) 0 ⟨?_, sub_intro hm [(0, some 0), (1, some 1), (2, some 2), (3, some 3), (4, some 4), (5, some 5), (7, some 7), (9, some 9), (10, some 10), (11, some 11), (13, some 13)] rfl ?_⟩ ?_
              · exact H0.out.1
              · exact sd
              · rintro i hi
                obtain ⟨gp1, gp2⟩ := HG.out i hi
                have ha := HA.out i hi
                have hs := HS.out i hi
                obtain ⟨P, hPe⟩ : ∃ P, L.getD i [] = P := ⟨_, rfl⟩
                rw [hPe] at gp1 gp2 ha hs
                have HG2 := Lib.hid gp2
                have HA2 := Lib.hid ha
                have HS2 := Lib.hid hs
                clear gp2 ha hs
                rw [hPe]
                repeat first | refine lwp_seq fun K hK => ?_ | (with_reducible refine gA ?_; apply_assumption -exfalso -symm) | refine Stp.h ?_ | refine gF rfl ?_ | refine gG rfl ?_
                refine lops_head hC (told0 _ []) 2 [2, 3] rfl rfl ?_ ?_
                · exact sd
                · refine lops_yield hC (j := 2) (idx := [3]) rfl (fun _ _ h => by cases h) rfl (by exact sd) fun F2 hP2 hm2 hC2 => ?_; have hP1o := hP; have hm1o := hm; have hC1o := hC; have hrd1o := hrd; have hP := hP2.trans hP; have hm := hm2; have hC := hC2; clear hP2 hm2 hC2; dsimp only at hC hm; dsimp only
                  refine lwp_code hAS ?_
                  repeat first | refine lwp_seq fun K hK => ?_ | (with_reducible refine gA ?_; apply_assumption -exfalso -symm) | refine Stp.h ?_ | refine gF rfl ?_ | refine gG rfl ?_ | refine gM hC rfl sd ?_
                  (refine ⟨rfl, ?_⟩; (conv => whnf))
                  refine lwp_meet ⟨[], (11, .obj (.rcd (plT S T) 59 #[26] AS BD .busy)) :: (13, .row 3 S.length 1 (.ints .i64 P)) :: plH S T (plB S T (i + 1)).isSome (vlB S T (i + 1)) (rowB S T (i + 1)), 14⟩ ?_ ?_
                  · refine lwp_code hBD ?_
                    repeat first | refine lwp_seq fun K hK => ?_ | (with_reducible refine gA ?_; apply_assumption -exfalso -symm) | refine Stp.h ?_ | refine gF rfl ?_ | refine gG rfl ?_ | refine gM hC rfl ⟨⟩ ?_
                    (refine lwp_region hC ⟨[], [], [(2, Told_i S T P [(0, some 0), (1, some 1), (2, some 13)])]⟩ (told1 _ (by rw [hP]; exact (calls_cons (Told_s _ _ _ _ HB.out (by omega) (fun k hk => (HG2.out k (by omega)).2)) calls_nil))) rfl ?_ ?_; rotate_left 1)
                    · have hce := cpE_fit gp1 HG2.out
                      have hkeep := plB_keep HS2.out
                      have htake := plB_take HS2.out
                      have hcop := copied gp1 (rowB_len (T := T) i)
                      have hvP : valP S T P = (valV S P P.length, valC S T P P.length) := rfl
                      rw [hvP] at hkeep htake
                      have HCE := Lib.hid hce
                      have HKE := Lib.hid hkeep
                      have HTA := Lib.hid htake
                      have HCO := Lib.hid hcop
                      clear hce hkeep htake hcop hvP
                      dsimp only
                      have hrl := rowB_len (S := S) (T := T) i
                      generalize (plB S T i).isSome = b at *
                      generalize vlB S T i = v at *
                      generalize rowB S T i = B at *
                      clear hrl
                      cases b with
                      | false =>
                        repeat first | refine lwp_seq fun K hK => ?_ | (with_reducible refine gA ?_; apply_assumption -exfalso -symm) | refine Stp.h ?_ | refine gF rfl ?_ | refine gG rfl ?_
                        (refine lwp_region hC ⟨[(1, { b := some false }), (2, { g := some false }), (3, { g := some false }), (4, { g := some false }), (5, { g := some false }), (6, { g := some false }), (8, { b := some false })], [], [(11, CPlan_i S T P [(0, some 0), (1, some 1), (2, some 13)])]⟩ (told1 _ (by rw [hP]; exact (calls_cons (CPlan_s _ _ _ _ HB.out (by omega)) calls_nil))) rfl ?_ ?_; rotate_left 1)
                        · repeat first | refine lwp_seq fun K hK => ?_ | (with_reducible refine gA ?_; apply_assumption -exfalso -symm) | refine Stp.h ?_ | refine gF rfl ?_ | refine gG rfl ?_ | refine gM hC rfl sd ?_
                          refine lwp_condS hC rfl sd ?_ ?_ <;> intro hb
                          · have hft : fitE S T P ≠ 0 := by rw [← HCE.out]; simpa using hb
                            have e := HKE.out (.inl hft)
                            have EE := Lib.hid e
                            clear e hb hft
                            repeat first | refine lwp_seq fun K hK => ?_ | (with_reducible refine gA ?_; apply_assumption -exfalso -symm) | refine Stp.h ?_ | refine gF rfl ?_ | refine gG rfl ?_ | refine gM hC rfl sd ?_
                            refine gA (sub_intro hm [(0, some 0), (1, some 1), (2, some 2), (3, some 3), (4, some 4), (5, some 5), (7, some 7), (9, some 9), (10, some 10), (11, some 11), (13, some 13)] rfl ?_)
                            rw [EE.out.1.1, EE.out.1.2, EE.out.2]
                            try rw [HCO.out]
                            exact sd
                          · have hft : fitE S T P = 0 := by rw [← HCE.out]; simpa using hb
                            have e := HTA.out hft (.inl rfl)
                            have EE := Lib.hid e
                            clear e hb hft
                            repeat first | refine lwp_seq fun K hK => ?_ | (with_reducible refine gA ?_; apply_assumption -exfalso -symm) | refine Stp.h ?_ | refine gF rfl ?_ | refine gG rfl ?_ | refine gM hC rfl sd ?_
                            refine gA (sub_intro hm [(0, some 0), (1, some 1), (2, some 2), (3, some 3), (4, some 4), (5, some 5), (7, some 7), (9, some 9), (10, some 10), (11, some 11), (13, some 13)] rfl ?_)
                            rw [EE.out.1.1, EE.out.1.2, EE.out.2]
                            try rw [HCO.out]
                            exact sd
                        · exact sd
                      | true =>
                        repeat first | refine lwp_seq fun K hK => ?_ | (with_reducible refine gA ?_; apply_assumption -exfalso -symm) | refine Stp.h ?_ | refine gF rfl ?_ | refine gG rfl ?_
                        by_cases hbe : bet (valV S P P.length, valC S T P P.length) v = true
                        · have HBE := Lib.hid hbe
                          clear hbe
                          (refine lwp_region hC ⟨[(1, { b := some true }), (8, { b := some false })], [], [(5, Bet_i (valV S P P.length, valC S T P P.length) v []), (11, CPlan_i S T P [(0, some 0), (1, some 1), (2, some 13)])]⟩ (told1 _ (by rw [hP]; exact (calls_cons (Bet_s _ _ _) (calls_cons (CPlan_s _ _ _ _ HB.out (by omega)) calls_nil)))) rfl ?_ ?_; rotate_left 1)
                          · repeat first | refine lwp_seq fun K hK => ?_ | (with_reducible refine gA ?_; apply_assumption -exfalso -symm) | refine Stp.h ?_ | refine gF rfl ?_ | refine gG rfl ?_ | refine gM hC rfl sd ?_
                            refine lwp_condS hC rfl sd ?_ ?_ <;> intro hb
                            · have hft : fitE S T P ≠ 0 := by rw [← HCE.out]; simpa using hb
                              have e := HKE.out (.inl hft)
                              have EE := Lib.hid e
                              clear e hb hft
                              repeat first | refine lwp_seq fun K hK => ?_ | (with_reducible refine gA ?_; apply_assumption -exfalso -symm) | refine Stp.h ?_ | refine gF rfl ?_ | refine gG rfl ?_ | refine gM hC rfl sd ?_
                              refine gA (sub_intro hm [(0, some 0), (1, some 1), (2, some 2), (3, some 3), (4, some 4), (5, some 5), (7, some 7), (9, some 9), (10, some 10), (11, some 11), (13, some 13)] rfl ?_)
                              rw [EE.out.1.1, EE.out.1.2, EE.out.2]
                              try rw [HCO.out]
                              exact sd
                            · have hft : fitE S T P = 0 := by rw [← HCE.out]; simpa using hb
                              have e := HTA.out hft (.inr HBE.out)
                              have EE := Lib.hid e
                              clear e hb hft
                              repeat first | refine lwp_seq fun K hK => ?_ | (with_reducible refine gA ?_; apply_assumption -exfalso -symm) | refine Stp.h ?_ | refine gF rfl ?_ | refine gG rfl ?_ | refine gM hC rfl sd ?_
                              refine gA (sub_intro hm [(0, some 0), (1, some 1), (2, some 2), (3, some 3), (4, some 4), (5, some 5), (7, some 7), (9, some 9), (10, some 10), (11, some 11), (13, some 13)] rfl ?_)
                              rw [EE.out.1.1, EE.out.1.2, EE.out.2]
                              try rw [HCO.out]
                              exact sd
                          · (try rw [HBE.out])
                            exact sd
                        · have hbe : bet (valV S P P.length, valC S T P P.length) v = false := by simpa using hbe
                          have HBE := Lib.hid hbe
                          clear hbe
                          (refine lwp_region hC ⟨[(1, { b := some true }), (8, { b := some true }), (9, { g := some false }), (10, { g := some false }), (11, { g := some false }), (12, { g := some false })], [], [(5, Bet_i (valV S P P.length, valC S T P P.length) v [])]⟩ (told1 _ (by rw [hP]; exact (calls_cons (Bet_s _ _ _) calls_nil))) rfl ?_ ?_; rotate_left 1)
                          · repeat first | refine lwp_seq fun K hK => ?_ | (with_reducible refine gA ?_; apply_assumption -exfalso -symm) | refine Stp.h ?_ | refine gF rfl ?_ | refine gG rfl ?_ | refine gM hC rfl sd ?_
                            refine lwp_condS hC rfl sd ?_ ?_ <;> intro hb
                            · have e := HKE.out (.inr ⟨rfl, HBE.out⟩)
                              have EE := Lib.hid e
                              clear e hb
                              repeat first | refine lwp_seq fun K hK => ?_ | (with_reducible refine gA ?_; apply_assumption -exfalso -symm) | refine Stp.h ?_ | refine gF rfl ?_ | refine gG rfl ?_ | refine gM hC rfl sd ?_
                              refine gA (sub_intro hm [(0, some 0), (1, some 1), (2, some 2), (3, some 3), (4, some 4), (5, some 5), (7, some 7), (9, some 9), (10, some 10), (11, some 11), (13, some 13)] rfl ?_)
                              rw [EE.out.1.1, EE.out.1.2, EE.out.2]
                              try rw [HCO.out]
                              exact sd
                            · simp at hb
                          · (try rw [HBE.out])
                            exact sd
                    · exact sd
                  · ((conv => whnf); refine ⟨_, rfl, ?_⟩; have hP := hP1o; have hm := hm1o; have hC := hC1o; have hrd := hrd1o; refine lops_tail hC (told0 _ []) (i := 3) (by decide) rfl ?_ ?_; rotate_left 1)
                    · repeat first | refine lwp_seq fun K hK => ?_ | (with_reducible refine gA ?_; apply_assumption -exfalso -symm) | refine Stp.h ?_ | refine gF rfl ?_ | refine gG rfl ?_ | refine gM hC rfl sd ?_
                      refine lwp_condS hC rfl sd ?_ ?_ <;> intro hb
                      · simp at hb
                      · clear hb
                        repeat first | refine lwp_seq fun K hK => ?_ | (with_reducible refine gA ?_; apply_assumption -exfalso -symm) | refine Stp.h ?_ | refine gF rfl ?_ | refine gG rfl ?_ | refine gM hC rfl sd ?_
                        refine lwp_loop (fun c : Nat => ⟨[(0, .yld 11), (1, .ptr 10 0 0 0), (2, .ptr 9 0 0 0), (4, .sl 13 S.length), (5, i64 ((c : Int) - 1))], (11, .obj (.rcd (plT S T) 59 #[26] AS BD .ready)) :: (13, .row 3 S.length 1 (.ints .i64 (back P c))) :: plH S T (plB S T (i + 1)).isSome (vlB S T (i + 1)) (rowB S T (i + 1)), 14⟩) (fun c => c ≤ S.length ∧ ∀ k, c ≤ k → k < P.length → P.getD k 0 = (T.length : Int) - 1) (fun c => c) S.length ⟨?_, sub_intro hm [(0, some 0), (1, some 1), (2, some 2), (3, some 3), (4, some 4), (5, some 5), (7, some 7), (9, some 9), (10, some 10), (11, some 11), (13, some 13)] rfl ?_⟩ ?_
                        · exact ⟨Nat.le_refl _, fun k h1 h2 => by omega⟩
                        · rw [show back P S.length = P by rw [← gp1]; exact back_all P]
                          exact sd
                        · rintro c ⟨hc, hall⟩
                          have HALL := Lib.hid hall
                          clear hall
                          rcases c with _ | c
                          · repeat first | refine lwp_seq fun K hK => ?_ | (with_reducible refine gA ?_; apply_assumption -exfalso -symm) | refine Stp.h ?_ | refine gF rfl ?_ | refine gG rfl ?_
                            (refine lwp_drawn hC (by rw [hP]; exact mixed) ⟨[(2, { b := some false }), (3, { g := some false }), (4, { g := some false }), (5, { g := some false }), (6, { g := some false }), (7, { g := some false }), (8, { g := some false }), (9, { g := some false }), (10, { g := some false }), (11, { g := some false })], [], []⟩ (told0 _ _) [0, 1, 3, 7, 7, 31, 63, 7, 135, 391, 903, 2047, 4095] 11 rfl ?_ ?_; rotate_left 1)
                            · repeat first | refine lwp_seq fun K hK => ?_ | (with_reducible refine gA ?_; apply_assumption -exfalso -symm) | refine Stp.h ?_ | refine gF rfl ?_ | refine gG rfl ?_ | refine gM hC rfl sd ?_
                              refine lwp_condS hC rfl sd ?_ ?_ <;> intro hb
                              · simp at hb
                              · clear hb
                                repeat first | refine lwp_seq fun K hK => ?_ | (with_reducible refine gA ?_; apply_assumption -exfalso -symm) | refine Stp.h ?_ | refine gF rfl ?_ | refine gG rfl ?_ | refine gM hC rfl sd ?_
                                refine lwp_condS hC rfl sd ?_ ?_ <;> intro hb
                                · have hend : i + 1 = L.length := by
                                    have h1 := HA2.out
                                    rw [nxt_end HALL.out] at h1
                                    by_cases h2 : i + 1 < L.length
                                    · rw [if_pos h2] at h1; cases h1
                                    · omega
                                  rw [hend]
                                  have g0 := HL.out
                                  have g1 : vlB S T L.length = valP S T (bestP S T) := by rw [HV.out, g0]
                                  have g2 : rowB S T L.length = bestP S T := by rw [HR.out, g0]; rfl
                                  rw [g1, g2]
                                  clear g0 g1 g2 hb
                                  repeat first | refine lwp_seq fun K hK => ?_ | (with_reducible refine gA ?_; apply_assumption -exfalso -symm) | refine Stp.h ?_ | refine gF rfl ?_ | refine gG rfl ?_ | refine gM hC rfl sd ?_
                                  (refine ⟨by first | exact .inl rfl | exact .inr rfl, ?_⟩; (conv => whnf); have hP := hPo; have hm := hmo; have hC := hCo; have hrd := hrdo; (try (apply_assumption -exfalso -symm)))
                                  repeat first | refine lwp_seq fun K hK => ?_ | (with_reducible refine gA ?_; apply_assumption -exfalso -symm) | refine Stp.h ?_ | refine gF rfl ?_ | refine gG rfl ?_ | refine gM hC rfl sd ?_
                                  (refine lwp_drawn hC (by rw [hP]; exact mixed) ⟨[], [], []⟩ (told0 _ _) [0, 1, 0, 4, 12, 0, 32, 96, 252, 3, 1023, 2047] 10 rfl ?_ ?_; rotate_left 1)
                                  · repeat first | refine lwp_seq fun K hK => ?_ | (with_reducible refine gA ?_; apply_assumption -exfalso -symm) | refine Stp.h ?_ | refine gF rfl ?_ | refine gG rfl ?_ | refine gM hC rfl sd ?_
                                    (refine end_intro (by first | exact .inr rfl | exact .inl rfl) [(2, some 4)] rfl ?_)
                                    exact sd
                                  · exact sd
                                · omega
                            · exact sd
                          · rw [show (((c + 1 : Nat) : Int) - 1) = (c : Int) by omega]
                            have hkk : ((c : Int)).toNat = c := Int.toNat_natCast c
                            have hba := back_at (P := P) (c := c) (by omega)
                            have HBA := Lib.hid hba
                            clear hba
                            have hbl : (back P (c + 1)).length = S.length := by rw [back_len (by omega), gp1]
                            repeat first | refine lwp_seq fun K hK => ?_ | (with_reducible refine gA ?_; apply_assumption -exfalso -symm) | refine Stp.h ?_ | refine gF rfl ?_ | refine gG rfl ?_
                            (refine lwp_drawn hC (by rw [hP]; exact mixed) ⟨[(2, { b := some true })], [], []⟩ (told0 _ _) [0, 1, 3, 7, 7, 31, 63, 7, 135, 391, 903, 2047, 4095] 11 rfl ?_ ?_; rotate_left 1)
                            · repeat first | refine lwp_seq fun K hK => ?_ | (with_reducible refine gA ?_; apply_assumption -exfalso -symm) | refine Stp.h ?_ | refine gF rfl ?_ | refine gG rfl ?_ | refine gM hC rfl sd ?_
                              refine lwp_condS hC rfl sd ?_ ?_ <;> intro hb
                              · have hx : P.getD c 0 = (T.length : Int) - 1 := by
                                  rw [← HBA.out]
                                  rw [hkk] at hb
                                  simpa using hb
                                clear hb
                                repeat first | refine lwp_seq fun K hK => ?_ | (with_reducible refine gA ?_; apply_assumption -exfalso -symm) | refine Stp.h ?_ | refine gF rfl ?_ | refine gG rfl ?_ | refine gM hC rfl sd ?_
                                refine gA ⟨c, ?_, ?_, sub_intro hm [(0, some 0), (1, some 1), (2, some 2), (3, some 3), (4, some 4), (5, some 5), (7, some 7), (9, some 9), (10, some 10), (11, some 11), (13, some 13)] rfl ?_⟩
                                · refine ⟨by omega, fun k h1 h2 => ?_⟩
                                  by_cases e : k = c
                                  · subst e; exact hx
                                  · exact HALL.out k (by omega) h2
                                · omega
                                · rw [hkk, back_step (by omega)]
                                  exact sd
                              · have hx : P.getD c 0 ≠ (T.length : Int) - 1 := by
                                  rw [← HBA.out]
                                  rw [hkk] at hb
                                  simpa using hb
                                have hnx := nxt_on HALL.out (by omega) hx
                                have h1 := HA2.out
                                rw [hnx] at h1
                                have hi1 : i + 1 < L.length := by
                                  by_cases h2 : i + 1 < L.length
                                  · exact h2
                                  · rw [if_neg h2] at h1; cases h1
                                rw [if_pos hi1] at h1
                                injection h1 with h1
                                have HN := Lib.hid h1
                                clear h1 hnx hb
                                repeat first | refine lwp_seq fun K hK => ?_ | (with_reducible refine gA ?_; apply_assumption -exfalso -symm) | refine Stp.h ?_ | refine gF rfl ?_ | refine gG rfl ?_ | refine gM hC rfl sd ?_
                                refine lwp_condS hC rfl sd ?_ ?_ <;> intro hb
                                · omega
                                · have hpc := (HG2.out c (by omega)).2
                                  have hpc1 := (HG2.out c (by omega)).1
                                  clear hb
                                  repeat first | refine lwp_seq fun K hK => ?_ | (with_reducible refine gA ?_; apply_assumption -exfalso -symm) | refine Stp.h ?_ | refine gF rfl ?_ | refine gG rfl ?_ | refine gM hC rfl ⟨⟩ ?_
                                  (refine lwp_region hC ⟨[], [], []⟩ (told0 _ _) rfl ?_ ?_; rotate_left 1)
                                  · repeat first | refine lwp_seq fun K hK => ?_ | (with_reducible refine gA ?_; apply_assumption -exfalso -symm) | refine Stp.h ?_ | refine gF rfl ?_ | refine gG rfl ?_ | refine gM hC rfl sd ?_
                                    refine gA ⟨i + 1, ?_, ?_, sub_intro hm [(0, some 0), (1, some 1), (2, some 2), (3, some 3), (4, some 4), (5, some 5), (7, some 7), (9, some 9), (10, some 10), (11, some 11), (13, some 13)] rfl ?_⟩
                                    · exact hi1
                                    · omega
                                    · rw [hkk, HBA.out, HN.out]
                                      exact sd
                                  · rw [hkk, HBA.out]
                                    exact sd
                            · exact sd
                    · exact sd
            · exact sd
        · exact sd
    · exact sd
  · have e1 : planEr S T = [] := if_neg hz
    have e2 : planVr S T = (0, 0) := if_neg hz
    rw [e1, e2]
    unfold Inst.ok; dsimp only; refine spec_of_body (tys := tys) 2 Tryz.func18 (by kernel_rfl) rfl tys_ok rfl (Nat.le_of_ble_eq_true rfl) (fun _ _ h => (by cases h)) fun F hP hm hC hrd => ?_; conv => whnf
    repeat first | refine lwp_seq fun K hK => ?_ | (with_reducible refine gA ?_; apply_assumption -exfalso -symm) | refine Stp.h ?_ | refine gF rfl ?_ | refine gG rfl ?_ | refine gM hC rfl sd ?_
    (refine lwp_region hC ⟨[], [], [(1, Off_i S T [(0, some 0), (1, some 1)])]⟩ (told1 _ (by rw [hP]; exact (calls_cons (Off_s _ _ _ hS hT) calls_nil))) rfl ?_ ?_; rotate_left 1)
    · repeat first | refine lwp_seq fun K hK => ?_ | (with_reducible refine gA ?_; apply_assumption -exfalso -symm) | refine Stp.h ?_ | refine gF rfl ?_ | refine gG rfl ?_ | refine gM hC rfl sd ?_
      refine lwp_condS hC rfl sd ?_ ?_ <;> intro hb
      · repeat first | refine lwp_seq fun K hK => ?_ | (with_reducible refine gA ?_; apply_assumption -exfalso -symm) | refine Stp.h ?_ | refine gF rfl ?_ | refine gG rfl ?_ | refine gM hC rfl sd ?_
        (refine end_intro (by first | exact .inr rfl | exact .inl rfl) [(2, none)] rfl ?_)
        exact sd
      · exact absurd hb hz
    · exact sd

end Go.Proofs.YtccddhoeampdjaaGreatDoor
