/- Chapter 9: the longest chain, the program's. -/
import Derived.Test.YtlhgddgoblliaaaGreatDoorVh
set_option linter.unusedVariables false
set_option linter.unusedSimpArgs false
namespace Go.Proofs.YtlhgddgoblliaaaGreatDoor
open Go.RowKit Go.Sym

theorem rng_at {n k : Nat} (h : k < n) : (List.range n).getD k 0 = k := by simp [List.getD, h]
def nxK (l : List Jb) (a : Nat) : Int := idxF (nxB l a) (List.range l.length)
def Ix1_i (l : List Jb) (a : Nat) (σ : Ren) : Inst := { f := 76, hin := chIn l a, args := [.sl 0 l.length, .fn 77 [] [.ptr 2 0 0 0, .ptr 3 0 0 0, .ptr 4 0 0 0]], hout := [], ret := i64 (nxK l a), σ := σ }
set_option maxRecDepth 20000 in
theorem Ix1_s (l : List Jb) (a : Nat) (σ : Ren) (hl : l.length ≤ 1000) (hln : ∀ k, lnJ l k ≤ 1000) (ha : a < l.length) (hfd : ∀ k, k < l.length → fnd l (l.getD k jbD).name = k) : (Ix1_i l a σ).ok Tryz.prog := by
  have HFD := Lib.hid hfd
  clear hfd
  unfold Ix1_i chIn Inst.ok; dsimp only; refine spec_of_body (tys := tys) 6 Tryz.func76 (by kernel_rfl) rfl tys_ok rfl (Nat.le_of_ble_eq_true rfl) (fun _ _ h => (by cases h)) fun F hP hm hC hrd => ?_; conv => whnf
  repeat first | refine lwp_seq fun K hK => ?_ | (with_reducible refine gA ?_; apply_assumption -exfalso -symm) | refine Stp.h ?_ | refine gF rfl ?_ | refine gG rfl ?_ | refine gM hC rfl sd ?_
  refine lwp_loop (fun k : Nat => ⟨[(8, i64 k), (7, i64 l.length), (0, .sl 0 l.length), (1, .fn 77 [] [.ptr 2 0 0 0, .ptr 3 0 0 0, .ptr 4 0 0 0])], chIn l a, 6⟩) (fun k => k ≤ l.length ∧ ∀ i : Nat, i < k → nxB l a ((List.range l.length).getD i 0) = false) (fun k => l.length - k) 0 ⟨?_, sub_intro hm [(0, some 0), (1, some 1), (2, some 2), (3, some 3), (4, some 4), (5, some 5)] rfl ?_⟩ ?_
  · exact ⟨Nat.zero_le _, fun i hi => absurd hi (Nat.not_lt_zero _)⟩
  · exact sd
  · rintro k ⟨hk, hf⟩
    have hkk : ((k : Int)).toNat = k := Int.toNat_natCast k
    have HF := Lib.hid hf
    clear hf
    unfold chIn
    repeat first | refine lwp_seq fun K hK => ?_ | (with_reducible refine gA ?_; apply_assumption -exfalso -symm) | refine Stp.h ?_ | refine gF rfl ?_ | refine gG rfl ?_ | refine gM hC rfl sd ?_
    refine lwp_condS hC rfl sd ?_ ?_ <;> intro hb
    · have hk2 : k < l.length := by omega
      have hrl : k < (List.range l.length).length := by simpa using hk2
      have hrg := rng_at hk2
      clear hb
      repeat first | refine lwp_seq fun K hK => ?_ | (with_reducible refine gA ?_; apply_assumption -exfalso -symm) | refine Stp.h ?_ | refine gF rfl ?_ | refine gG rfl ?_ | refine gM hC rfl sd ?_
      (refine lwp_region hC ⟨[], [], [(5, Ch1_i l a k [(0, some 0), (1, some 1), (2, some 2), (3, some 3), (4, some 4), (5, some 5)])]⟩ (told1 _ (by rw [hP]; exact (calls_cons (Ch1_s _ _ _ _ hl hln ha hk2 (HFD.out k hk2)) calls_nil))) rfl ?_ ?_; rotate_left 1)
      · repeat first | refine lwp_seq fun K hK => ?_ | (with_reducible refine gA ?_; apply_assumption -exfalso -symm) | refine Stp.h ?_ | refine gF rfl ?_ | refine gG rfl ?_ | refine gM hC rfl sd ?_
        refine lwp_condS hC rfl sd ?_ ?_ <;> intro hb
        · have hE : nxK l a = k := idxF_hit (d := 0) hrl (by rw [hrg]; exact hb) HF.out
          clear hb
          repeat first | refine lwp_seq fun K hK => ?_ | (with_reducible refine gA ?_; apply_assumption -exfalso -symm) | refine Stp.h ?_ | refine gF rfl ?_ | refine gG rfl ?_ | refine gM hC rfl sd ?_
          (refine end_intro (by first | exact .inr rfl | exact .inl rfl) [] rfl ?_)
          rw [hE]
          exact sd
        · have HN := Lib.hid hb
          have HRG := Lib.hid hrg
          clear hb hrg hrl
          repeat first | refine lwp_seq fun K hK => ?_ | (with_reducible refine gA ?_; apply_assumption -exfalso -symm) | refine Stp.h ?_ | refine gF rfl ?_ | refine gG rfl ?_ | refine gM hC rfl sd ?_
          refine gA ⟨k + 1, ?_, ?_, sub_intro hm [(0, some 0), (1, some 1), (2, some 2), (3, some 3), (4, some 4), (5, some 5)] rfl ?_⟩
          · refine ⟨hk2, fun i hi => ?_⟩
            by_cases e : i = k
            · subst e; rw [HRG.out]; exact HN.out
            · exact HF.out i (by omega)
          · omega
          · exact sd
      · rw [hkk]
        exact sd
    · have hk3 : k = l.length := by omega
      subst hk3
      have hE : nxK l a = -1 := idxF_none (d := 0) fun i hi => HF.out i (by simpa using hi)
      clear hb
      repeat first | refine lwp_seq fun K hK => ?_ | (with_reducible refine gA ?_; apply_assumption -exfalso -symm) | refine Stp.h ?_ | refine gF rfl ?_ | refine gG rfl ?_ | refine gM hC rfl sd ?_
      (refine end_intro (by first | exact .inr rfl | exact .inl rfl) [] rfl ?_)
      rw [hE]
      exact sd

/-! What the rounds find. -/
theorem first_least {p : Nat → Bool} : ∀ {k : Nat}, p k = true → ∃ j, j ≤ k ∧ p j = true ∧ ∀ x, x < j → p x = false
  | 0, h => ⟨0, Nat.le_refl _, h, fun x hx => absurd hx (Nat.not_lt_zero _)⟩
  | k + 1, h => by
    by_cases h2 : ∃ y, y ≤ k ∧ p y = true
    · obtain ⟨y, h3, h4⟩ := h2
      have hy : ∀ m, y ≤ m → ∃ j, j ≤ m ∧ p j = true ∧ ∀ x, x < j → p x = false := fun m hm => by
        obtain ⟨j, h5, h6, h7⟩ := first_least h4
        exact ⟨j, by omega, h6, h7⟩
      exact hy (k + 1) (by omega)
    · exact ⟨k + 1, Nat.le_refl _, h, fun x hx => by
        cases e : p x with
        | false => rfl
        | true => exact absurd ⟨x, by omega, e⟩ h2⟩
termination_by k => k
decreasing_by omega
/-- A chain goes on. -/
theorem nx_is {l : List Jb} {rk : Nat → Nat} (hrk : Ranked l.length (edJ l) rk) {a : Nat} (ha : a < l.length) (hm : 1 < (mJ l).getD a 0) : ∃ k, k < l.length ∧ nxK l a = k ∧ chG l a = a :: chG l k ∧ (mJ l).getD k 0 < (mJ l).getD a 0 := by
  have ema := mJ_at l ha
  rw [ema] at hm
  obtain ⟨k0, h1, h2, h3⟩ := chain_has hrk ha hm
  have hp : ∀ k, k < l.length → (nxB l a k = true ↔ edJ l a k = true ∧ mF l.length (edJ l) l.length k + 1 = mF l.length (edJ l) l.length a) := fun k hk => by
    unfold nxB
    rw [mJ_at l hk, ema]
    cases edJ l a k with
    | false => simp
    | true => simp; omega
  obtain ⟨k, k1, k2, k3⟩ := first_least ((hp k0 h1).2 ⟨h2, h3⟩)
  have hkn : k < l.length := by omega
  obtain ⟨k4, k5⟩ := (hp k hkn).1 k2
  refine ⟨k, hkn, ?_, chain_next hrk ha hkn k4 k5 fun x hx he hc => ?_, ?_⟩
  · exact idxF_hit (d := 0) (by simpa using hkn) (by rw [rng_at hkn]; exact k2) fun i hi => by rw [rng_at (by omega)]; exact k3 i hi
  · have := k3 x hx
    rw [(hp x (by omega)).2 ⟨he, hc⟩] at this; cases this
  · rw [mJ_at l hkn, ema]; omega
/-- The first job whose chain is the longest. -/
theorem at_is {l : List Jb} {rk : Nat → Nat} (hrk : Ranked l.length (edJ l) rk) (h0 : 0 < l.length) : ∃ a, a < l.length ∧ idxF (eqI (mxV (mJ l) l.length : Nat)) (toI (mJ l)) = a ∧ chB l = chG l a := by
  have hmx : mxV (mJ l) l.length = mxF (fun j => (chG l j).length) (fun _ => true) l.length := mxF_congr fun j hj _ => by
    show (mJ l).getD j 0 = (chG l j).length
    rw [mJ_at l hj, cF_len]
  have hge := mxF_ge (f := fun j => (chG l j).length) (p := fun _ => true) (j := 0) rfl (k := l.length) h0
  have hl0 : (chG l 0).length = mF l.length (edJ l) l.length 0 := cF_len _ _
  have hps := mF_pos hrk h0
  have hge : (chG l 0).length ≤ mxF (fun j => (chG l j).length) (fun _ => true) l.length := hge
  obtain ⟨a0, h1, _, h3⟩ := mxF_at (f := fun j => (chG l j).length) (p := fun _ => true) (k := l.length) (by omega)
  obtain ⟨a, k1, k2, k3⟩ := first_least (p := fun j => decide ((chG l j).length = mxF (fun j => (chG l j).length) (fun _ => true) l.length)) (k := a0) (decide_eq_true h3)
  have ha : a < l.length := by omega
  have k2 := of_decide_eq_true k2
  have hlen : ∀ j, j < l.length → (toI (mJ l)).getD j 0 = ((chG l j).length : Nat) := fun j hj => by rw [toI_getD, mJ_at l hj, cF_len]
  refine ⟨a, ha, ?_, ?_⟩
  · refine idxF_hit (d := 0) (by rw [toI_len, mJ_len]; exact ha) ?_ fun i hi => ?_
    · rw [hlen a ha, k2, ← hmx]; exact decide_eq_true rfl
    · rw [hlen i (by omega)]
      have := of_decide_eq_false (k3 i hi)
      refine decide_eq_false fun e => this ?_
      rw [← hmx]
      omega
  · exact bstC_first ha rfl (by omega) k2 fun x hx _ hc => (of_decide_eq_false (k3 x hx)) (hc.trans k2)
structure InV (l : List Jb) (r i : Nat) (W : List Nat) : Prop where
  len : W.length = l.length
  lo : ∀ k, k < l.length → mF l.length (edJ l) r k ≤ W.getD k 0 ∧ W.getD k 0 ≤ mF l.length (edJ l) l.length k
  hi : ∀ k, k < i → k < l.length → mF l.length (edJ l) (r + 1) k ≤ W.getD k 0
theorem inV_zero (l : List Jb) : InV l 0 0 (List.replicate l.length 0) := ⟨List.length_replicate, fun k hk => by
  have : (List.replicate l.length 0).getD k 0 = 0 := by simp [List.getD, hk]
  rw [this]; exact ⟨Nat.le_refl 0, Nat.zero_le _⟩, fun k hk => absurd hk (Nat.not_lt_zero _)⟩
theorem inV_round {l : List Jb} {r : Nat} {W : List Nat} (h : InV l r l.length W) : InV l (r + 1) 0 W := ⟨h.len, fun k hk => ⟨h.hi k hk hk, (h.lo k hk).2⟩, fun k hk => absurd hk (Nat.not_lt_zero _)⟩
theorem set_at {W : List Nat} {i x k : Nat} (hi : i < W.length) : (W.set i x).getD k 0 = if k = i then x else W.getD k 0 := by
  rw [List.getD_eq_getElem?_getD, List.getElem?_set]
  by_cases e : i = k
  · subst e; rw [if_pos rfl, if_pos hi, if_pos rfl]; rfl
  · rw [if_neg e, if_neg (fun c => e c.symm), List.getD_eq_getElem?_getD]
abbrev wF (W : List Nat) : Nat → Nat := fun k => W.getD k 0
theorem inV_step {l : List Jb} {rk : Nat → Nat} (hrk : Ranked l.length (edJ l) rk) {r i : Nat} {W : List Nat} (h : InV l r i W) (hi : i < l.length) : InV l r (i + 1) (W.set i (1 + mxF (wF W) (edJ l i) l.length)) := by
  have hr := round_in hrk (r := r) hi (v := wF W) fun k hk => h.lo k hk
  have hmm := mF_mono (n := l.length) (E := edJ l) r i
  refine ⟨by rw [List.length_set]; exact h.len, fun k hk => ?_, fun k hk hkl => ?_⟩
  · rw [set_at (by rw [h.len]; exact hi)]
    split
    · rename_i e; subst e; exact ⟨by omega, hr.2⟩
    · exact h.lo k hk
  · rw [set_at (by rw [h.len]; exact hi)]
    split
    · rename_i e; subst e; exact hr.1
    · exact h.hi k (by omega) hkl
theorem inV_end {l : List Jb} {W : List Nat} (h : InV l l.length 0 W) : W = mJ l := by
  refine List.ext_getElem (by rw [h.len, mJ_len]) fun k h1 h2 => ?_
  have hk : k < l.length := by rw [← h.len]; exact h1
  have := h.lo k hk
  rw [List.getD_eq_getElem?_getD, List.getElem?_eq_getElem h1] at this
  have this : mF l.length (edJ l) l.length k ≤ W[k] ∧ W[k] ≤ mF l.length (edJ l) l.length k := this
  simp only [mJ, List.getElem_map, List.getElem_range]
  omega
theorem toI_set (W : List Nat) (i x : Nat) : (toI W).set i (x : Int) = toI (W.set i x) := by unfold toI; rw [List.map_set]
theorem toI_rep (n : Nat) : List.replicate n (0 : Int) = toI (List.replicate n 0) := by simp [toI]
def chE2 (l : List Jb) : Int := firstS [jobsE l, whenS (decide ((l.length : Int) = 0)) 7]
def chR (l : List Jb) : List ByteArray := if chE2 l = 0 then chS l else []
theorem chE2_zero {l : List Jb} (h : chE2 l = 0) : jobsE l = 0 ∧ 0 < l.length ∧ l.length ≤ 8 ∧ jbsE l = 0 ∧ cycB l = false := by
  have h1 := (firstS_cons _ _).1 h
  have h2 := of_decide_eq_false ((whenS_zero (by decide)).1 ((firstS_cons _ _).1 h1.2).1)
  have h3 := h1.1
  unfold jobsE at h3
  split at h3
  · cases h3
  · have h4 := (firstS_cons _ _).1 h3
    have h5 := (firstS_cons _ _).1 h4.2
    have h6 := (whenS_zero (by decide)).1 ((firstS_cons _ _).1 h5.2).1
    exact ⟨h1.1, by omega, by omega, h4.1, h6⟩

end Go.Proofs.YtlhgddgoblliaaaGreatDoor
