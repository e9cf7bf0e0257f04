/- Chapter 9: the best plan, the reference's. -/
import Derived.Test.YtccddhoeampdjaaGreatDoorNc
set_option linter.unusedVariables false
set_option linter.unusedSimpArgs false
namespace Go.Proofs.YtccddhoeampdjaaGreatDoor
open Go.RowKit Go.Sym

def RBet_i (a b : Int × Int) (σ : Ren) : Inst := { f := 93, hin := [], args := [.agg [i64 a.1, i64 a.2], .agg [i64 b.1, i64 b.2]], hout := [], ret := bl (bet a b), σ := σ }
theorem RBet_s (a b : Int × Int) (σ : Ren) : (RBet_i a b σ).ok Tryz.prog := by
  have hnot := bet_not (a := a) (b := b)
  have hiff := bet_iff (a := a) (b := b)
  have H1 := Lib.hid hnot
  have H2 := Lib.hid hiff
  clear hnot hiff
  unfold RBet_i Inst.ok; dsimp only; refine spec_of_body (tys := tys) 0 Tryz.func93 (by kernel_rfl) rfl tys_ok rfl (Nat.le_of_ble_eq_true rfl) (fun _ _ h => (by cases h)) fun F hP hm hC hrd => ?_; conv => whnf
  by_cases h1 : a.1 > b.1
  · have e : bet a b = true := H2.out.2 (.inl h1)
    repeat first | refine lwp_seq fun K hK => ?_ | (with_reducible refine gA ?_; apply_assumption -exfalso -symm) | refine Stp.h ?_ | refine gF rfl ?_ | refine gG rfl ?_
    (refine lwp_region hC ⟨[(5, { b := some true }), (6, { g := some false }), (7, { g := some false }), (8, { g := some false }), (9, { g := some false }), (10, { g := some false }), (11, { g := some false }), (17, { g := some false })], [], []⟩ (told0 _ _) rfl ?_ ?_; rotate_left 1)
    · repeat first | refine lwp_seq fun K hK => ?_ | (with_reducible refine gA ?_; apply_assumption -exfalso -symm) | refine Stp.h ?_ | refine gF rfl ?_ | refine gG rfl ?_ | refine gM hC rfl sd ?_
      (refine end_intro (by first | exact .inr rfl | exact .inl rfl) [] rfl ?_)
      rw [e]
      exact sd
    · exact sd
  · by_cases h2 : a.1 = b.1
    · by_cases h3 : a.2 < b.2
      · have e : bet a b = true := H2.out.2 (.inr ⟨h2, h3⟩)
        repeat first | refine lwp_seq fun K hK => ?_ | (with_reducible refine gA ?_; apply_assumption -exfalso -symm) | refine Stp.h ?_ | refine gF rfl ?_ | refine gG rfl ?_
        (refine lwp_region hC ⟨[(5, { b := some false }), (11, { b := some true }), (16, { b := some true })], [], []⟩ (told0 _ _) rfl ?_ ?_; rotate_left 1)
        · repeat first | refine lwp_seq fun K hK => ?_ | (with_reducible refine gA ?_; apply_assumption -exfalso -symm) | refine Stp.h ?_ | refine gF rfl ?_ | refine gG rfl ?_ | refine gM hC rfl sd ?_
          (refine end_intro (by first | exact .inr rfl | exact .inl rfl) [] rfl ?_)
          rw [e]
          exact sd
        · exact sd
      · have e : bet a b = false := H1.out.2 (by omega)
        repeat first | refine lwp_seq fun K hK => ?_ | (with_reducible refine gA ?_; apply_assumption -exfalso -symm) | refine Stp.h ?_ | refine gF rfl ?_ | refine gG rfl ?_
        (refine lwp_region hC ⟨[(5, { b := some false }), (11, { b := some true }), (16, { b := some false })], [], []⟩ (told0 _ _) rfl ?_ ?_; rotate_left 1)
        · repeat first | refine lwp_seq fun K hK => ?_ | (with_reducible refine gA ?_; apply_assumption -exfalso -symm) | refine Stp.h ?_ | refine gF rfl ?_ | refine gG rfl ?_ | refine gM hC rfl sd ?_
          (refine end_intro (by first | exact .inr rfl | exact .inl rfl) [] rfl ?_)
          rw [e]
          exact sd
        · exact sd
    · have e : bet a b = false := H1.out.2 (by omega)
      repeat first | refine lwp_seq fun K hK => ?_ | (with_reducible refine gA ?_; apply_assumption -exfalso -symm) | refine Stp.h ?_ | refine gF rfl ?_ | refine gG rfl ?_
      (refine lwp_region hC ⟨[(5, { b := some false }), (11, { b := some false }), (12, { g := some false }), (13, { g := some false }), (14, { g := some false }), (15, { g := some false }), (16, { g := some false })], [], []⟩ (told0 _ _) rfl ?_ ?_; rotate_left 1)
      · repeat first | refine lwp_seq fun K hK => ?_ | (with_reducible refine gA ?_; apply_assumption -exfalso -symm) | refine Stp.h ?_ | refine gF rfl ?_ | refine gG rfl ?_ | refine gM hC rfl sd ?_
        (refine end_intro (by first | exact .inr rfl | exact .inl rfl) [] rfl ?_)
        rw [e]
        exact sd
      · exact sd

def inB (T : List Shf) (b : List Int) : Prop := ∀ x ∈ b, -1 ≤ x ∧ x < T.length
theorem inB_get {T : List Shf} {b : List Int} (h : inB T b) : ∀ k, k < b.length → b.getD k 0 < T.length := by
  intro k hk
  rw [List.getD_eq_getElem?_getD, List.getElem?_eq_getElem hk]
  exact (h _ (List.getElem_mem hk)).2
def rp (S : List Sec) (T : List Shf) (b : List Int) (d : Nat) : List Int := (begP S T b d).getD []
def rj (S : List Sec) (T : List Shf) (b : List Int) (d j : Nat) : List Int := (begJ S T b d j).getD []
/-- What a beginning may be. -/
structure Beg (S : List Sec) (T : List Shf) (b : List Int) (d : Nat) : Prop where
  l : b.length + d = S.length
  f : fitB S T b = true
  i : inB T b
theorem rp_is {S : List Sec} {T : List Shf} {b : List Int} {d : Nat} (h : Beg S T b d) : begP S T b d = some (rp S T b d) ∧ (rp S T b d).length = S.length ∧ inB T (rp S T b d) := by
  obtain ⟨p, h1, h2, h3⟩ := begP_is (d := d) h.f
  unfold rp
  rw [h1]
  refine ⟨rfl, by have := h.l; simp [h2]; omega, fun x hx => ?_⟩
  rcases h3 x hx with h4 | h4
  · exact h.i x h4
  · exact h4
theorem rj_is {S : List Sec} {T : List Shf} {b : List Int} {d j : Nat} (h : Beg S T b (d + 1)) (hj : j ≤ T.length + 1) (hs : (begJ S T b d j).isSome = true) : begJ S T b d j = some (rj S T b d j) ∧ (rj S T b d j).length = S.length ∧ inB T (rj S T b d j) := by
  unfold rj
  cases e : begJ S T b d j with
  | none => rw [e] at hs; cases hs
  | some r =>
    obtain ⟨h1, _, _⟩ := bst_is e
    obtain ⟨t, ht, rfl⟩ := List.mem_map.1 h1
    obtain ⟨k, t', hk, ht', rfl⟩ := preL_mem.1 ht
    obtain ⟨t1, t2⟩ := allL_mem.1 ht'
    refine ⟨rfl, by have := h.l; simp [t1]; omega, fun x hx => ?_⟩
    rcases List.mem_append.1 hx with hx | hx
    · exact h.i x hx
    · rcases List.mem_cons.1 hx with rfl | hx
      · omega
      · exact t2 x hx
theorem beg_next {S : List Sec} {T : List Shf} {b : List Int} {d j : Nat} (h : Beg S T b (d + 1)) (hj : j ≤ T.length) (hf : fitE S T (b ++ [(j : Int) - 1]) = 0) : Beg S T (b ++ [(j : Int) - 1]) d := by
  refine ⟨by have := h.l; simp; omega, by unfold fitB; rw [hf]; rfl, fun x hx => ?_⟩
  rcases List.mem_append.1 hx with hx | hx
  · exact h.i x hx
  · cases List.mem_singleton.1 hx; omega
theorem rj_not {S : List Sec} {T : List Shf} {b : List Int} {d j : Nat} (hB : OffB S T) (hf : fitE S T (b ++ [(j : Int) - 1]) ≠ 0) : (begJ S T b d (j + 1)).isSome = (begJ S T b d j).isSome ∧ rj S T b d (j + 1) = rj S T b d j := by
  have e : begJ S T b d (j + 1) = begJ S T b d j := by
    rw [begJ_step, begP_not hB (by unfold fitB; simpa using hf), comb_none]
  unfold rj; rw [e]; exact ⟨rfl, rfl⟩
theorem rj_first {S : List Sec} {T : List Shf} {b : List Int} {d j : Nat} (h : Beg S T (b ++ [(j : Int) - 1]) d) (hs : (begJ S T b d j).isSome = false ∨ bet (valP S T (rp S T (b ++ [(j : Int) - 1]) d)) (valP S T (rj S T b d j)) = true) : (begJ S T b d (j + 1)).isSome = true ∧ rj S T b d (j + 1) = rp S T (b ++ [(j : Int) - 1]) d := by
  have e : begJ S T b d (j + 1) = some (rp S T (b ++ [(j : Int) - 1]) d) := by
    rw [begJ_step, (rp_is h).1]
    unfold rj at hs
    cases e : begJ S T b d j with
    | none => rfl
    | some r =>
      rw [e] at hs
      rcases hs with hs | hs
      · cases hs
      · have hs : bet (valP S T (rp S T (b ++ [(j : Int) - 1]) d)) (valP S T r) = true := hs
        show (if bet _ _ = true then _ else _) = _
        rw [if_pos hs]
  unfold rj; rw [e]; exact ⟨rfl, rfl⟩
theorem rj_keep {S : List Sec} {T : List Shf} {b : List Int} {d j : Nat} (h : Beg S T (b ++ [(j : Int) - 1]) d) (h1 : (begJ S T b d j).isSome = true) (hs : bet (valP S T (rp S T (b ++ [(j : Int) - 1]) d)) (valP S T (rj S T b d j)) = false) : (begJ S T b d (j + 1)).isSome = true ∧ rj S T b d (j + 1) = rj S T b d j := by
  unfold rj at hs ⊢
  rw [begJ_step, (rp_is h).1]
  cases e : begJ S T b d j with
  | none => rw [e] at h1; cases h1
  | some r =>
    rw [e] at hs
    simp only [comb]
    have hs : bet (valP S T (rp S T (b ++ [(j : Int) - 1]) d)) (valP S T r) = false := hs
    rw [if_neg (by rw [hs]; simp)]
    exact ⟨rfl, rfl⟩

theorem cat_one (b : List Int) (k : Int) : (Cont.ints .i64 (b ++ [k])).cells = (catC (Cont.ints .i64 b) (Cont.exp [i64 k])).cells := by rw [catC_cells]; simp [Cont.cells]
theorem cat_none (k : Int) : (Cont.ints .i64 ([] ++ [k])).cells = (Cont.exp [i64 k]).cells := rfl
theorem inB_snoc {T : List Shf} {b : List Int} {j : Nat} (h : inB T b) (hj : j ≤ T.length) : inB T (b ++ [(j : Int) - 1]) := fun x hx => by
  rcases List.mem_append.1 hx with hx | hx
  · exact h x hx
  · cases List.mem_singleton.1 hx; omega
theorem rp_full {S : List Sec} {T : List Shf} {N : List Int} {d : Nat} (h : Beg S T N d) (hd : d = 0) : rp S T N d = N := by
  subst hd
  unfold rp
  rw [begP_zero h.f]; rfl

def RPl0_i (S : List Sec) (T : List Shf) (b : List Int) (σ : Ren) : Inst := { f := 22, hin := planIn S T b, args := [ofA S T, .sl 2 b.length], hout := [], ret := .sl 2 b.length, σ := σ }
theorem RPl0_s (S : List Sec) (T : List Shf) (b : List Int) (σ : Ren) (h : b.length = S.length) (hS : S.length ≤ 1000) : (RPl0_i S T b σ).ok Tryz.prog := by
  unfold RPl0_i Inst.ok; dsimp only; refine spec_of_body (tys := tys) 3 Tryz.func22 (by kernel_rfl) rfl tys_ok rfl (Nat.le_of_ble_eq_true rfl) (fun _ _ h => (by cases h)) fun F hP hm hC hrd => ?_; conv => whnf
  repeat first | refine lwp_seq fun K hK => ?_ | (with_reducible refine gA ?_; apply_assumption -exfalso -symm) | refine Stp.h ?_ | refine gF rfl ?_ | refine gG rfl ?_ | refine gM hC rfl sd ?_
  refine lwp_condS hC rfl sd ?_ ?_ <;> intro hb
  · repeat first | refine lwp_seq fun K hK => ?_ | (with_reducible refine gA ?_; apply_assumption -exfalso -symm) | refine Stp.h ?_ | refine gF rfl ?_ | refine gG rfl ?_ | refine gM hC rfl sd ?_
    (refine end_intro (by first | exact .inr rfl | exact .inl rfl) [(0, some 0), (1, some 1), (2, some 2)] rfl ?_)
    exact sd
  · omega
def RPl_i (S : List Sec) (T : List Shf) (b : List Int) (d : Nat) (σ : Ren) : Inst := { f := 22, hin := planIn S T b, args := [ofA S T, .sl 2 b.length], hout := [(3, .row 3 (rp S T b (d + 1)).length 1 (.ints .i64 (rp S T b (d + 1))))], ret := .sl 3 (rp S T b (d + 1)).length, σ := σ }
set_option maxRecDepth 20000 in
set_option maxHeartbeats 8000000 in
theorem RPl_s (S : List Sec) (T : List Shf) (hB : OffB S T) : ∀ (d : Nat) (b : List Int) (σ : Ren), Beg S T b (d + 1) → (RPl_i S T b d σ).ok Tryz.prog
  | d, b, σ, hb0 => by
    have ih : ∀ d', d = d' + 1 → ∀ b' σ', Beg S T b' d → (RPl_i S T b' d' σ').ok Tryz.prog := fun d' e b' σ' h => RPl_s S T hB d' b' σ' (e ▸ h)
    have hl := hb0.l
    have hS7 := hB.lS
    have hT5 := hB.lT
    have hrp : rj S T b d (T.length + 1) = rp S T b (d + 1) := rfl
    have hr0 : rj S T b d 0 = [] := rfl
    have hs0 : (begJ S T b d 0).isSome = false := rfl
    have IH := Lib.hid ih
    have HB := Lib.hid hB
    have HG := Lib.hid hb0
    have HRP := Lib.hid hrp
    have HR0 := Lib.hid hr0
    have HS0 := Lib.hid hs0
    clear ih hB hb0 hrp hr0 hs0
    unfold RPl_i
    unfold Inst.ok; dsimp only; refine spec_of_body (tys := tys) 3 Tryz.func22 (by kernel_rfl) rfl tys_ok rfl (Nat.le_of_ble_eq_true rfl) (fun _ _ h => (by cases h)) fun F hP hm hC hrd => ?_; conv => whnf
    repeat first | refine lwp_seq fun K hK => ?_ | (with_reducible refine gA ?_; apply_assumption -exfalso -symm) | refine Stp.h ?_ | refine gF rfl ?_ | refine gG rfl ?_ | refine gM hC rfl sd ?_
    refine lwp_condS hC rfl sd ?_ ?_ <;> intro hb
    · omega
    · clear hb
      repeat first | refine lwp_seq fun K hK => ?_ | (with_reducible refine gA ?_; apply_assumption -exfalso -symm) | refine Stp.h ?_ | refine gF rfl ?_ | refine gG rfl ?_ | refine gM hC rfl sd ?_
      refine lwp_loop (fun j : Nat => ⟨[(2, .ptr 3 0 0 0), (1, .sl 2 b.length), (5, .sl 4 (rj S T b d j).length), (6, bl (begJ S T b d j).isSome), (7, i64 ((j : Int) - 1))], [(4, .row 3 (rj S T b d j).length 1 (.ints .i64 (rj S T b d j))), (3, .blk 25 [.sl 0 S.length, .sl 1 T.length]), (0, .ro S.length 5 (secC S)), (1, .ro T.length 4 (shfC T)), (2, .ro b.length 1 (.ints .i64 b))], 5⟩) (fun j => j ≤ T.length + 1) (fun j => T.length + 1 - j) 0 ⟨?_, sub_intro hm [(0, some 0), (1, some 1), (2, some 2), (3, some 3), (4, none)] rfl ?_⟩ ?_
      · exact Nat.zero_le _
      · rw [HR0.out, HS0.out]
        exact sd
      · rintro j hj
        repeat first | refine lwp_seq fun K hK => ?_ | (with_reducible refine gA ?_; apply_assumption -exfalso -symm) | refine Stp.h ?_ | refine gF rfl ?_ | refine gG rfl ?_ | refine gM hC rfl sd ?_
        refine lwp_condS hC rfl sd ?_ ?_ <;> intro hb
        · have hj2 : j ≤ T.length := by omega
          clear hb
          repeat first | refine lwp_seq fun K hK => ?_ | (with_reducible refine gA ?_; apply_assumption -exfalso -symm) | refine Stp.h ?_ | refine gF rfl ?_ | refine gG rfl ?_
          have hcat := cat_one b ((j : Int) - 1)
          have hcat0 := cat_none ((j : Int) - 1)
          have hNl : (b ++ [(j : Int) - 1]).length = b.length + 1 := by simp
          have hNi := inB_snoc HG.out.i hj2
          have hnot := rj_not (d := d) (j := j) (b := b) HB.out
          have hbeg := beg_next HG.out hj2
          have hfirst := fun h => rj_first (S := S) (T := T) (b := b) (d := d) (j := j) h
          have hkeep := fun h => rj_keep (S := S) (T := T) (b := b) (d := d) (j := j) h
          have hsome := rj_is HG.out hj
          have hnil : b = [] → b ++ [(j : Int) - 1] = [] ++ [(j : Int) - 1] := fun e => by rw [e]
          obtain ⟨N, hNe⟩ : ∃ N, b ++ [(j : Int) - 1] = N := ⟨_, rfl⟩
          rw [hNe] at hNl hNi hnot hbeg hfirst hkeep hnil
          have HNE := Lib.hid hNe.symm
          have HC0 := Lib.hid hcat0
          have HNI := Lib.hid hNi
          have HNO := Lib.hid hnot
          have HBG := Lib.hid hbeg
          have HF := Lib.hid hfirst
          have HK := Lib.hid hkeep
          have HSM := Lib.hid hsome
          have HNN := Lib.hid hnil
          clear hcat hcat0 hNi hnot hbeg hfirst hkeep hsome hnil hNe
          refine lwp_meet ⟨[(2, .ptr 3 0 0 0), (1, .sl 2 b.length), (5, .sl 4 (rj S T b d j).length), (6, bl (begJ S T b d j).isSome), (7, i64 ((j : Int) - 1)), (8, .sl 5 N.length)], [(5, .row 3 N.length 1 (.ints .i64 N)), (4, .row 3 (rj S T b d j).length 1 (.ints .i64 (rj S T b d j))), (3, .blk 25 [.sl 0 S.length, .sl 1 T.length]), (0, .ro S.length 5 (secC S)), (1, .ro T.length 4 (shfC T)), (2, .ro b.length 1 (.ints .i64 b))], 6⟩ ?_ ?_
          · by_cases hb0 : b.length = 0
            · (refine lwp_region hC ⟨[(2, { b := some false }), (5, { b := some true })], [], []⟩ (told0 _ _) rfl ?_ ?_; rotate_left 1)
              · refine gA (sub_intro hm [(0, some 0), (1, some 1), (2, some 2), (3, some 3), (4, some 4), (5, some 8)] rfl ?_)
                have hbn : b = [] := List.eq_nil_of_length_eq_zero hb0
                rw [HNN.out hbn]
                have h0 := HC0.out
                exact sd
              · exact sd
            · (refine lwp_region hC ⟨[(2, { b := some true })], [], []⟩ (told0 _ _) rfl ?_ ?_; rotate_left 1)
              · refine gA (sub_intro hm [(0, some 0), (1, some 1), (2, some 2), (3, some 3), (4, some 4), (5, some 8)] rfl ?_)
                rw [← HNE.out]
                exact sd
              · exact sd
          · repeat first | refine lwp_seq fun K hK => ?_ | (with_reducible refine gA ?_; apply_assumption -exfalso -symm) | refine Stp.h ?_ | refine gF rfl ?_ | refine gG rfl ?_
            (refine lwp_region hC ⟨[], [], [(2, RFit_i S T N [(0, some 0), (1, some 1), (2, some 5)])]⟩ (told1 _ (by rw [hP]; exact (calls_cons (RFit_s _ _ _ _ HB.out (by omega) (inB_get HNI.out)) calls_nil))) rfl ?_ ?_; rotate_left 1)
            · repeat first | refine lwp_seq fun K hK => ?_ | (with_reducible refine gA ?_; apply_assumption -exfalso -symm) | refine Stp.h ?_ | refine gF rfl ?_ | refine gG rfl ?_ | refine gM hC rfl sd ?_
              refine lwp_condS hC rfl sd ?_ ?_ <;> intro hb
              · have e := HNO.out hb
                have EE := Lib.hid e
                clear e hb
                repeat first | refine lwp_seq fun K hK => ?_ | (with_reducible refine gA ?_; apply_assumption -exfalso -symm) | refine Stp.h ?_ | refine gF rfl ?_ | refine gG rfl ?_ | refine gM hC rfl sd ?_
                refine gA ⟨j + 1, ?_, ?_, sub_intro hm [(0, some 0), (1, some 1), (2, some 2), (3, some 3), (4, some 4)] rfl ?_⟩
                · omega
                · omega
                · rw [EE.out.1, EE.out.2, show (((j + 1 : Nat) : Int) - 1) = (j : Int) - 1 + 1 by omega]
                  exact sd
              · have hBG := HBG.out hb
                have hrpi := rp_is hBG
                have hff := HF.out hBG
                have hkk := HK.out hBG
                have hful := rp_full hBG
                have HRI := Lib.hid hrpi
                have HFF := Lib.hid hff
                have HKK := Lib.hid hkk
                have HFU := Lib.hid hful
                have HGG := Lib.hid hBG
                have hpl := hrpi.2.1
                clear hrpi hff hkk hful hBG hb
                repeat first | refine lwp_seq fun K hK => ?_ | (with_reducible refine gA ?_; apply_assumption -exfalso -symm) | refine Stp.h ?_ | refine gF rfl ?_ | refine gG rfl ?_
                refine lwp_meet ⟨[(2, .ptr 3 0 0 0), (1, .sl 2 b.length), (5, .sl 4 (rj S T b d j).length), (6, bl (begJ S T b d j).isSome), (7, i64 ((j : Int) - 1)), (9, .sl 6 (rp S T N d).length)], [(6, .row 3 (rp S T N d).length 1 (.ints .i64 (rp S T N d))), (4, .row 3 (rj S T b d j).length 1 (.ints .i64 (rj S T b d j))), (3, .blk 25 [.sl 0 S.length, .sl 1 T.length]), (0, .ro S.length 5 (secC S)), (1, .ro T.length 4 (shfC T)), (2, .ro b.length 1 (.ints .i64 b))], 7⟩ ?_ ?_
                · rcases d with _ | d
                  · (refine lwp_region hC ⟨[], [], [(2, RPl0_i S T N [(0, some 0), (1, some 1), (2, some 5)])]⟩ (told1 _ (by rw [hP]; exact (calls_cons (RPl0_s _ _ _ _ (by omega) (by omega)) calls_nil))) rfl ?_ ?_; rotate_left 1)
                    · refine gA (sub_intro hm [(0, some 0), (1, some 1), (2, some 2), (3, some 3), (4, some 4), (6, some 5)] rfl ?_)
                      rw [HFU.out rfl]
                      exact sd
                    · exact sd
                  · (refine lwp_region hC ⟨[], [], [(2, RPl_i S T N d [(0, some 0), (1, some 1), (2, some 5)])]⟩ (told1 _ (by rw [hP]; exact (calls_cons (IH.out _ rfl _ _ HGG.out) calls_nil))) rfl ?_ ?_; rotate_left 1)
                    · refine gA (sub_intro hm [(0, some 0), (1, some 1), (2, some 2), (3, some 3), (4, some 4), (6, some 6)] rfl ?_)
                      exact sd
                    · exact sd
                · obtain ⟨p, hpe⟩ : ∃ p, rp S T N d = p := ⟨_, rfl⟩
                  rw [hpe] at HRI HFF HKK hpl
                  rw [hpe]
                  by_cases hfd : (begJ S T b d j).isSome = true
                  · have hsm := HSM.out hfd
                    have hrl := hsm.2.1
                    have hri := hsm.2.2
                    have HSI := Lib.hid hri
                    have HKE := Lib.hid (HKK.out hfd)
                    clear hsm hri
                    rw [hfd]
                    have hvp : valP S T p = (valV S p p.length, valC S T p p.length) := rfl
                    have hvr : valP S T (rj S T b d j) = (valV S (rj S T b d j) (rj S T b d j).length, valC S T (rj S T b d j) (rj S T b d j).length) := rfl
                    obtain ⟨r, hre⟩ : ∃ r, rj S T b d j = r := ⟨_, rfl⟩
                    rw [hre] at hrl HSI HKE hvr HFF
                    rw [hre]
                    rw [hvp, hvr] at HFF HKE
                    clear hvp hvr HKK HSM HF HK
                    repeat first | refine lwp_seq fun K hK => ?_ | (with_reducible refine gA ?_; apply_assumption -exfalso -symm) | refine Stp.h ?_ | refine gF rfl ?_ | refine gG rfl ?_
                    (refine lwp_drawn hC (by rw [hP]; exact mixed) ⟨[(2, { b := some false })], [], [(5, RVal_i S T p [(0, some 0), (1, some 1), (2, some 6)]), (8, RVal_i S T r [(0, some 0), (1, some 1), (2, some 4)]), (9, RBet_i (valV S p p.length, valC S T p p.length) (valV S r r.length, valC S T r r.length) [])]⟩ (told1 _ (by rw [hP]; exact (calls_cons (RVal_s _ _ _ _ HB.out (by omega) (inB_get HRI.out.2.2)) (calls_cons (RVal_s _ _ _ _ HB.out (by omega) (inB_get HSI.out)) (calls_cons (RBet_s _ _ _) calls_nil))))) [0, 1, 3, 7, 7, 31, 7, 7, 255, 511, 1023] 8 rfl ?_ ?_; rotate_left 1)
                    · repeat first | refine lwp_seq fun K hK => ?_ | (with_reducible refine gA ?_; apply_assumption -exfalso -symm) | refine Stp.h ?_ | refine gF rfl ?_ | refine gG rfl ?_ | refine gM hC rfl sd ?_
                      refine lwp_condS hC rfl sd ?_ ?_ <;> intro hb
                      · have e := HFF.out (.inr (by simpa using hb))
                        have EE := Lib.hid e
                        clear e hb
                        repeat first | refine lwp_seq fun K hK => ?_ | (with_reducible refine gA ?_; apply_assumption -exfalso -symm) | refine Stp.h ?_ | refine gF rfl ?_ | refine gG rfl ?_ | refine gM hC rfl sd ?_
                        refine gA ⟨j + 1, ?_, ?_, sub_intro hm [(0, some 0), (1, some 1), (2, some 2), (3, some 3), (4, some 6)] rfl ?_⟩
                        · omega
                        · omega
                        · rw [EE.out.1, EE.out.2, show (((j + 1 : Nat) : Int) - 1) = (j : Int) - 1 + 1 by omega]
                          exact sd
                      · have e := HKE.out (by simpa using hb)
                        have EE := Lib.hid e
                        clear e hb
                        repeat first | refine lwp_seq fun K hK => ?_ | (with_reducible refine gA ?_; apply_assumption -exfalso -symm) | refine Stp.h ?_ | refine gF rfl ?_ | refine gG rfl ?_ | refine gM hC rfl sd ?_
                        refine gA ⟨j + 1, ?_, ?_, sub_intro hm [(0, some 0), (1, some 1), (2, some 2), (3, some 3), (4, some 4)] rfl ?_⟩
                        · omega
                        · omega
                        · rw [EE.out.1, EE.out.2, show (((j + 1 : Nat) : Int) - 1) = (j : Int) - 1 + 1 by omega]
                          exact sd
                    · exact sd
                  · have hfd : (begJ S T b d j).isSome = false := by simpa using hfd
                    have e := HFF.out (.inl hfd)
                    have EE := Lib.hid e
                    rw [hfd]
                    clear e
                    repeat first | refine lwp_seq fun K hK => ?_ | (with_reducible refine gA ?_; apply_assumption -exfalso -symm) | refine Stp.h ?_ | refine gF rfl ?_ | refine gG rfl ?_
                    (refine lwp_drawn hC (by rw [hP]; exact mixed) ⟨[(2, { b := some true }), (3, { g := some false }), (4, { g := some false }), (5, { g := some false }), (6, { g := some false }), (7, { g := some false }), (8, { g := some false }), (9, { g := some false })], [], []⟩ (told0 _ _) [0, 1, 3, 7, 7, 31, 7, 7, 255, 511, 1023] 8 rfl ?_ ?_; rotate_left 1)
                    · repeat first | refine lwp_seq fun K hK => ?_ | (with_reducible refine gA ?_; apply_assumption -exfalso -symm) | refine Stp.h ?_ | refine gF rfl ?_ | refine gG rfl ?_ | refine gM hC rfl sd ?_
                      refine lwp_condS hC rfl sd ?_ ?_ <;> intro hb
                      · clear hb
                        repeat first | refine lwp_seq fun K hK => ?_ | (with_reducible refine gA ?_; apply_assumption -exfalso -symm) | refine Stp.h ?_ | refine gF rfl ?_ | refine gG rfl ?_ | refine gM hC rfl sd ?_
                        refine gA ⟨j + 1, ?_, ?_, sub_intro hm [(0, some 0), (1, some 1), (2, some 2), (3, some 3), (4, some 6)] rfl ?_⟩
                        · omega
                        · omega
                        · rw [EE.out.1, EE.out.2, show (((j + 1 : Nat) : Int) - 1) = (j : Int) - 1 + 1 by omega]
                          exact sd
                      · simp at hb
                    · exact sd
            · exact sd
        · obtain rfl : j = T.length + 1 := by omega
          rw [HRP.out]
          repeat first | refine lwp_seq fun K hK => ?_ | (with_reducible refine gA ?_; apply_assumption -exfalso -symm) | refine Stp.h ?_ | refine gF rfl ?_ | refine gG rfl ?_ | refine gM hC rfl sd ?_
          (refine end_intro (by first | exact .inr rfl | exact .inl rfl) [(3, some 4)] rfl ?_)
          exact sd

end Go.Proofs.YtccddhoeampdjaaGreatDoor
