/- Chapter 9: the best lifts: the reference's. -/
import Derived.Test.YtccddhoeampdjaaGreatDoorUe
set_option linter.unusedVariables false
set_option linter.unusedSimpArgs false
namespace Go.Proofs.YtccddhoeampdjaaGreatDoor
open Go.RowKit Go.Sym

/-- The ways through code that meet in a state. -/
theorem lwp_meetD {F : Frm} {x : Code} {Q : Exit → St → Prop} {s : St} (t : St) (h1 : LWP F x (thenS (fun s' => Sub F s' t) fun _ _ => False) s) (h2 : Q .normal t) : LWP F x Q s :=
  ⟨fun ρ a w hs => wpIn_mono (h1.out ρ a w hs) fun e a w ⟨s', ρ', h, hs'⟩ => by
    cases e with
    | normal =>
      obtain ⟨ρ1, h3⟩ := h ρ' a w hs'
      exact ⟨t, ρ1, h2, h3⟩
    | _ => exact h.elim⟩
def gL (o : Option (Int × List Int)) : List Int := (o.map (·.2)).getD []
theorem gL_none : gL none = [] := rfl
theorem gL_some (p : Int × List Int) : gL (some p) = p.2 := rfl
section bk
variable (M : Nat) (r a t : Int) (lv tg : List Int) (b : Int)
def bk (k : Nat) : Option (Int × List Int) := bestN (bestD M r (lv.zip tg)) (missI a t) (fun n => nearB r n b) k
variable {M r a t lv tg b}
theorem bk_end : bestD M r ((a :: lv).zip (t :: tg)) b = bk M r a t lv tg b (M + 1) := rfl
theorem bk_in {k : Nat} (hk : k ≤ M + 1) {p : Int × List Int} (h : bk M r a t lv tg b k = some p) : p.2.length = (lv.zip tg).length + 1 ∧ (∀ x ∈ p.2, 0 ≤ x ∧ x ≤ M) ∧ costL ((a :: lv).zip (t :: tg)) p.2 = p.1 := by
  obtain ⟨n, q, n1, _, n3, rfl, _⟩ := bestN_is h
  obtain ⟨h1, h2⟩ := bestD_feas n3
  obtain ⟨h3, h4⟩ := feasD_all h1
  refine ⟨by simp [h3], fun x hx => ?_, ?_⟩
  · rcases List.mem_cons.1 hx with rfl | hx
    · omega
    · exact h4 x hx
  · show missI a t n + costL (lv.zip tg) q.2 = _
    rw [h2]
theorem cmbD_none (o : Option (Int × List Int)) : cmbD o none = o := by cases o <;> rfl
theorem bk_far {k : Nat} (h : ¬ nearB r k b = true) : bk M r a t lv tg b (k + 1) = bk M r a t lv tg b k := by
  show cmbD (bk M r a t lv tg b k) (oneN _ _ _ _) = _
  unfold oneN
  rw [if_neg h, cmbD_none]
theorem bk_none {k : Nat} (h : bestD M r (lv.zip tg) k = none) : bk M r a t lv tg b (k + 1) = bk M r a t lv tg b k := by
  show cmbD (bk M r a t lv tg b k) (oneN _ _ _ _) = _
  unfold oneN
  rw [h]
  split <;> exact cmbD_none _
theorem bk_near {k : Nat} (hn : nearB r k b = true) {q : Int × List Int} (h : bestD M r (lv.zip tg) k = some q) : bk M r a t lv tg b (k + 1) = cmbD (bk M r a t lv tg b k) (some (missI a t k + q.1, (k : Int) :: q.2)) := by
  show cmbD (bk M r a t lv tg b k) (oneN _ _ _ _) = _
  unfold oneN
  rw [if_pos hn, h]
  rfl
end bk
theorem cat_head (k : Int) (l : List Int) : (Cont.ints .i64 (k :: l)).cells = (catC (Cont.exp [i64 k]) (Cont.ints .i64 l)).cells := by rw [catC_cells]; simp [Cont.cells]
theorem lvOk_tail {a : Int} {l : List Int} (h : lvOk (a :: l)) : (-1000 ≤ a ∧ a ≤ 1000) ∧ lvOk l := ⟨h.2 0, by have := h.1; simp at this; omega, fun k => h.2 (k + 1)⟩
def rdIn (lv tg : List Int) : List (Nat × Chunk) := twoIn lv tg
def RDg_i (M : Nat) (r : Int) (lv tg : List Int) (b : Int) (σ : Ren) : Inst := { f := 42, hin := twoIn lv tg, args := [.sl 0 lv.length, .sl 1 tg.length, .agg [i64 (M : Int), i64 r], i64 b], hout := [(2, .row 3 (gL (bestD M r (lv.zip tg) b)).length 1 (.ints .i64 (gL (bestD M r (lv.zip tg) b))))], ret := .tup [.sl 2 (gL (bestD M r (lv.zip tg) b)).length, bl (bestD M r (lv.zip tg) b).isSome], σ := σ }
set_option maxRecDepth 20000 in
set_option maxHeartbeats 4000000 in
theorem RDg_s (M : Nat) (r : Int) (hM : M ≤ 12) (hr : 1 ≤ r ∧ r ≤ 12) : ∀ (lv tg : List Int) (b : Int) (σ : Ren), lvOk lv → lvOk tg → lv.length = tg.length → 0 ≤ b ∧ b ≤ 12 → (RDg_i M r lv tg b σ).ok Tryz.prog
  | [], [], b, σ, _, _, _, hb0 => by
    have e1 : gL (bestD M r (([] : List Int).zip ([] : List Int)) b) = [] := by
      show gL (if b ≤ r then some (0, []) else none) = []
      split <;> rfl
    have e2 : (bestD M r (([] : List Int).zip ([] : List Int)) b).isSome = decide (b ≤ r) := by
      show (if b ≤ r then some ((0 : Int), ([] : List Int)) else none).isSome = _
      by_cases h : b ≤ r
      · rw [if_pos h, decide_eq_true h]; rfl
      · rw [if_neg h, decide_eq_false h]; rfl
    unfold RDg_i
    rw [e1, e2]
    unfold twoIn Inst.ok; dsimp only; refine spec_of_body (tys := tys) 2 Tryz.func42 (by kernel_rfl) rfl tys_ok rfl (Nat.le_of_ble_eq_true rfl) (fun _ _ h => (by cases h)) fun F hP hm hC hrd => ?_; conv => whnf
    repeat first | refine lwp_seq fun K hK => ?_ | (with_reducible refine gA ?_; apply_assumption -exfalso -symm) | refine Stp.h ?_ | refine gF rfl ?_ | refine gG rfl ?_ | refine gM hC rfl sd ?_
    refine lwp_condS hC rfl sd ?_ ?_ <;> intro hb
    · clear hb
      repeat first | refine lwp_seq fun K hK => ?_ | (with_reducible refine gA ?_; apply_assumption -exfalso -symm) | refine Stp.h ?_ | refine gF rfl ?_ | refine gG rfl ?_
      (refine lwp_drawn hC (by rw [hP]; exact mixed) ⟨[], [], []⟩ (told0 _ _) [0, 0, 2, 7, 0, 31] 5 rfl ?_ ?_; rotate_left 1)
      · repeat first | refine lwp_seq fun K hK => ?_ | (with_reducible refine gA ?_; apply_assumption -exfalso -symm) | refine Stp.h ?_ | refine gF rfl ?_ | refine gG rfl ?_ | refine gM hC rfl sd ?_
        (refine end_intro (by first | exact .inr rfl | exact .inl rfl) [(2, none)] rfl ?_)
        exact sd
      · exact sd
    · exact absurd rfl hb
  | [], _ :: _, b, σ, _, _, h, _ => by simp at h
  | _ :: _, [], b, σ, _, _, h, _ => by simp at h
  | a :: lv, t :: tg, b, σ, hl, ht, hlen, hb0 => by
    have ih := fun b' σ' h => RDg_s M r hM hr lv tg b' σ' (lvOk_tail hl).2 (lvOk_tail ht).2 (by simpa using hlen) h
    have hl24 := hl.1
    have hlen' : lv.length = tg.length := by simpa using hlen
    have hzl : (lv.zip tg).length = lv.length := by rw [List.length_zip]; omega
    have hin := fun k (hk : k ≤ M + 1) p h => bk_in (M := M) (r := r) (a := a) (t := t) (lv := lv) (tg := tg) (b := b) (k := k) hk (p := p) h
    have hfar := fun k => bk_far (M := M) (r := r) (a := a) (t := t) (lv := lv) (tg := tg) (b := b) (k := k)
    have hnon := fun k => bk_none (M := M) (r := r) (a := a) (t := t) (lv := lv) (tg := tg) (b := b) (k := k)
    have hnear := fun k hn q h => bk_near (M := M) (r := r) (a := a) (t := t) (lv := lv) (tg := tg) (b := b) (k := k) hn (q := q) h
    have hfea := fun (k : Int) (q : Int × List Int) (h : bestD M r (lv.zip tg) k = some q) => And.intro (feasD_all (bestD_feas h).1) (bestD_feas h).2
    have hzero : bk M r a t lv tg b 0 = none := rfl
    have hrc := fun L σ' => RCost_s (a :: lv) (t :: tg) L σ' hl ht
    have HIH := Lib.hid ih
    have HIN := Lib.hid hin
    have HFAR := Lib.hid hfar
    have HNON := Lib.hid hnon
    have HNEAR := Lib.hid hnear
    have HFEA := Lib.hid hfea
    have HZ := Lib.hid hzero
    have HRC := Lib.hid hrc
    clear ih hin hfar hnon hnear hfea hzero hrc hl ht hlen
    unfold RDg_i
    rw [bk_end]
    unfold twoIn Inst.ok; dsimp only; refine spec_of_body (tys := tys) 2 Tryz.func42 (by kernel_rfl) rfl tys_ok rfl (Nat.le_of_ble_eq_true rfl) (fun _ _ h => (by cases h)) fun F hP hm hC hrd => ?_; conv => whnf
    repeat first | refine lwp_seq fun K hK => ?_ | (with_reducible refine gA ?_; apply_assumption -exfalso -symm) | refine Stp.h ?_ | refine gF rfl ?_ | refine gG rfl ?_ | refine gM hC rfl sd ?_
    refine lwp_condS hC rfl sd ?_ ?_ <;> intro hb
    · simp at hb; omega
    · clear hb
      repeat first | refine lwp_seq fun K hK => ?_ | (with_reducible refine gA ?_; apply_assumption -exfalso -symm) | refine Stp.h ?_ | refine gF rfl ?_ | refine gG rfl ?_ | refine gM hC rfl sd ?_
      refine lwp_loop (fun k : Nat => ⟨[(12, i64 k), (10, .sl 3 (gL (bk M r a t lv tg b k)).length), (11, bl (bk M r a t lv tg b k).isSome), (6, .ptr 2 0 0 0), (0, .sl 0 (a :: lv).length), (1, .sl 1 (t :: tg).length), (3, i64 b)], [(3, .row 3 (gL (bk M r a t lv tg b k)).length 1 (.ints .i64 (gL (bk M r a t lv tg b k)))), (2, .blk 72 [i64 (M : Int), i64 r]), (0, .ro (a :: lv).length 1 (.ints .i64 (a :: lv))), (1, .ro (t :: tg).length 1 (.ints .i64 (t :: tg)))], 4⟩) (fun k => k ≤ M + 1) (fun k => M + 1 - k) 0 ⟨?_, sub_intro hm [(0, some 0), (1, some 1), (2, some 2), (3, none)] rfl ?_⟩ ?_
      · exact Nat.zero_le _
      · rw [HZ.out, gL_none]
        exact sd
      · rintro k hk
        repeat first | refine lwp_seq fun K hK => ?_ | (with_reducible refine gA ?_; apply_assumption -exfalso -symm) | refine Stp.h ?_ | refine gF rfl ?_ | refine gG rfl ?_ | refine gM hC rfl sd ?_
        refine lwp_condS hC rfl sd ?_ ?_ <;> intro hb
        · have hk2 : k ≤ M := by omega
          clear hb
          have hIN := HIN.out k hk
          have hN := HFAR.out k
          have hNo := HNON.out k
          have hNe := HNEAR.out k
          obtain ⟨o, ho⟩ : ∃ o, bk M r a t lv tg b k = o := ⟨_, rfl⟩
          rw [ho] at hIN hN hNo hNe
          rw [ho]
          have HI1 := Lib.hid hIN
          have HN1 := Lib.hid hN
          have HNO := Lib.hid hNo
          have HNE := Lib.hid hNe
          clear hIN hN hNo hNe ho
          by_cases hnr : nearB r k b = true
          · have hnr' := hnr
            unfold nearB at hnr'
            simp only [Bool.and_eq_true, decide_eq_true_eq] at hnr'
            repeat first | refine lwp_seq fun K hK => ?_ | (with_reducible refine gA ?_; apply_assumption -exfalso -symm) | refine Stp.h ?_ | refine gF rfl ?_ | refine gG rfl ?_ | refine gM hC rfl ⟨⟩ ?_
            (refine lwp_region hC ⟨[(6, { b := some false }), (12, { b := some false })], [], []⟩ (told0 _ _) rfl ?_ ?_; rotate_left 1)
            · repeat first | refine lwp_seq fun K hK => ?_ | (with_reducible refine gA ?_; apply_assumption -exfalso -symm) | refine Stp.h ?_ | refine gF rfl ?_ | refine gG rfl ?_ | refine gM hC rfl sd ?_
              refine lwp_condS hC rfl sd ?_ ?_ <;> intro hb
              · simp at hb
                omega
              · clear hb
                have HQ := Lib.hid hnr
                clear hnr
                obtain ⟨o2, ho2⟩ : ∃ o2, bestD M r (lv.zip tg) (k : Int) = o2 := ⟨_, rfl⟩
                have hcall := HIH.out (k : Int) [(0, some 4), (1, some 5)] (by omega)
                unfold RDg_i at hcall
                rw [ho2] at hcall
                have HCALL := Lib.hid hcall
                have HO2 := Lib.hid ho2
                clear hcall ho2
                have hcat := cat_head (k : Int) (gL o2)
                have hs1 : ((a :: lv).drop 1).take ((a :: lv).length - 1) = lv := by simp
                have hs2 : ((t :: tg).drop 1).take ((t :: tg).length - 1) = tg := by simp
                repeat first | refine lwp_seq fun K hK => ?_ | (with_reducible refine gA ?_; apply_assumption -exfalso -symm) | refine Stp.h ?_ | refine gF rfl ?_ | refine gG rfl ?_
                (refine lwp_drawn hC (by rw [hP]; exact mixed) ⟨[], [], [(6, { f := 42, hin := twoIn lv tg, args := [.sl 0 lv.length, .sl 1 tg.length, .agg [i64 (M : Int), i64 r], i64 (k : Int)], hout := [(2, .row 3 (gL o2).length 1 (.ints .i64 (gL o2)))], ret := .tup [.sl 2 (gL o2).length, bl o2.isSome], σ := [(0, some 4), (1, some 5)] })]⟩ (told1 _ (by rw [hP]; exact (calls_cons (HCALL.out) calls_nil))) [0, 1, 0, 4, 0, 0, 63, 127, 255, 255, 511, 2047] 11 rfl ?_ ?_; rotate_left 1)
                · clear hs1 hs2
                  have hgl : (gL o2).length ≤ 24 := by
                    rcases o2 with _ | q
                    · exact Nat.zero_le _
                    · have := (HFEA.out _ _ HO2.out).1.1
                      show q.2.length ≤ 24
                      simp at hl24
                      omega
                  repeat first | refine lwp_seq fun K hK => ?_ | (with_reducible refine gA ?_; apply_assumption -exfalso -symm) | refine Stp.h ?_ | refine gF rfl ?_ | refine gG rfl ?_
                  refine lwp_meetD ⟨[(15, .sl 4 ((k : Int) :: gL o2).length), (14, bl o2.isSome), (12, i64 k), (10, .sl 3 (gL o).length), (11, bl o.isSome), (6, .ptr 2 0 0 0), (0, .sl 0 (a :: lv).length), (1, .sl 1 (t :: tg).length), (3, i64 b)], [(4, .row 3 ((k : Int) :: gL o2).length 1 (.ints .i64 ((k : Int) :: gL o2))), (3, .row 3 (gL o).length 1 (.ints .i64 (gL o))), (2, .blk 72 [i64 (M : Int), i64 r]), (0, .ro (a :: lv).length 1 (.ints .i64 (a :: lv))), (1, .ro (t :: tg).length 1 (.ints .i64 (t :: tg)))], 5⟩ ?_ ?_
                  · repeat first | refine lwp_seq fun K hK => ?_ | (with_reducible refine gA ?_; apply_assumption -exfalso -symm) | refine Stp.h ?_ | refine gF rfl ?_ | refine gG rfl ?_
                    (refine lwp_region hC ⟨[], [], []⟩ (told0 _ _) rfl ?_ ?_; rotate_left 1)
                    · refine gA (sub_intro hm [(0, some 0), (1, some 1), (2, some 2), (3, some 3), (4, some 8)] rfl ?_)
                      exact sd
                    · exact sd
                  · rcases o2 with _ | q
                    · have e := HNO.out HO2.out
                      have E := Lib.hid e
                      clear e
                      repeat first | refine lwp_seq fun K hK => ?_ | (with_reducible refine gA ?_; apply_assumption -exfalso -symm) | refine Stp.h ?_ | refine gF rfl ?_ | refine gG rfl ?_
                      (refine lwp_region hC ⟨[(1, { b := some false }), (2, { g := some false }), (3, { g := some false }), (4, { g := some false }), (5, { g := some false }), (6, { g := some false }), (7, { g := some false }), (8, { g := some false }), (9, { g := some false }), (10, { g := some false }), (11, { g := some false }), (12, { g := some false }), (13, { g := some false }), (14, { g := some false })], [], []⟩ (told0 _ _) rfl ?_ ?_; rotate_left 1)
                      · repeat first | refine lwp_seq fun K hK => ?_ | (with_reducible refine gA ?_; apply_assumption -exfalso -symm) | refine Stp.h ?_ | refine gF rfl ?_ | refine gG rfl ?_ | refine gM hC rfl sd ?_
                        refine lwp_condS hC rfl sd ?_ ?_ <;> intro hb
                        · exact absurd hb (by simp)
                        · clear hb
                          repeat first | refine lwp_seq fun K hK => ?_ | (with_reducible refine gA ?_; apply_assumption -exfalso -symm) | refine Stp.h ?_ | refine gF rfl ?_ | refine gG rfl ?_ | refine gM hC rfl sd ?_
                          refine gA ⟨k + 1, ?_, ?_, sub_intro hm [(0, some 0), (1, some 1), (2, some 2), (3, some 3)] rfl ?_⟩
                          · omega
                          · omega
                          · rw [E.out]
                            exact sd
                      · exact sd
                    · have e := HNE.out HQ.out q HO2.out
                      have E := Lib.hid e
                      clear e
                      rcases o with _ | p
                      · repeat first | refine lwp_seq fun K hK => ?_ | (with_reducible refine gA ?_; apply_assumption -exfalso -symm) | refine Stp.h ?_ | refine gF rfl ?_ | refine gG rfl ?_
                        (refine lwp_region hC ⟨[(1, { b := some true }), (4, { b := some true }), (5, { g := some false }), (6, { g := some false }), (7, { g := some false }), (8, { g := some false }), (9, { g := some false }), (10, { g := some false }), (11, { g := some false }), (12, { g := some false }), (13, { g := some false })], [], []⟩ (told0 _ _) rfl ?_ ?_; rotate_left 1)
                        · repeat first | refine lwp_seq fun K hK => ?_ | (with_reducible refine gA ?_; apply_assumption -exfalso -symm) | refine Stp.h ?_ | refine gF rfl ?_ | refine gG rfl ?_ | refine gM hC rfl sd ?_
                          refine lwp_condS hC rfl sd ?_ ?_ <;> intro hb
                          · clear hb
                            repeat first | refine lwp_seq fun K hK => ?_ | (with_reducible refine gA ?_; apply_assumption -exfalso -symm) | refine Stp.h ?_ | refine gF rfl ?_ | refine gG rfl ?_ | refine gM hC rfl sd ?_
                            refine gA ⟨k + 1, ?_, ?_, sub_intro hm [(0, some 0), (1, some 1), (2, some 2), (3, some 4)] rfl ?_⟩
                            · omega
                            · omega
                            · rw [E.out]
                              exact sd
                          · exact absurd hb (by simp)
                        · exact sd
                      · obtain ⟨⟨q1, q2⟩, q3⟩ := HFEA.out _ _ HO2.out
                        obtain ⟨p1, p2, p3⟩ := HI1.out p rfl
                        have hNok : lfOk ((k : Int) :: q.2) := lfOk_of fun x hx => by
                          rcases List.mem_cons.1 hx with rfl | hx
                          · omega
                          · have := q2 x hx; omega
                        have hPok : lfOk p.2 := lfOk_of fun x hx => by have := p2 x hx; omega
                        have hcN : costL ((a :: lv).zip (t :: tg)) ((k : Int) :: q.2) = missI a t k + q.1 := by
                          show missI a t k + costL (lv.zip tg) q.2 = _
                          rw [q3]
                        have hA := HRC.out ((k : Int) :: q.2) [(0, some 0), (1, some 1), (2, some 4)] hNok (by simp; omega) (by simp; omega)
                        have hB := HRC.out p.2 [(0, some 0), (1, some 1), (2, some 3)] hPok (by simp; omega) (by simp; omega)
                        unfold RCost_i threeIn at hA hB
                        rw [hcN] at hA
                        rw [p3] at hB
                        have HA := Lib.hid hA
                        have HB := Lib.hid hB
                        clear hA hB hNok hPok hcN q1 q2 q3 p1 p2 p3
                        repeat first | refine lwp_seq fun K hK => ?_ | (with_reducible refine gA ?_; apply_assumption -exfalso -symm) | refine Stp.h ?_ | refine gF rfl ?_ | refine gG rfl ?_
                        (refine lwp_region hC ⟨[(1, { b := some true }), (4, { b := some false })], [], [(8, { f := 43, hin := [(0, .ro (a :: lv).length 1 (.ints .i64 (a :: lv))), (1, .ro (t :: tg).length 1 (.ints .i64 (t :: tg))), (2, .ro ((k : Int) :: q.2).length 1 (.ints .i64 ((k : Int) :: q.2)))], args := [.sl 0 (a :: lv).length, .sl 1 (t :: tg).length, .sl 2 ((k : Int) :: q.2).length], hout := [], ret := i64 (missI a t k + q.1), σ := [(0, some 0), (1, some 1), (2, some 4)] }), (12, { f := 43, hin := [(0, .ro (a :: lv).length 1 (.ints .i64 (a :: lv))), (1, .ro (t :: tg).length 1 (.ints .i64 (t :: tg))), (2, .ro p.2.length 1 (.ints .i64 p.2))], args := [.sl 0 (a :: lv).length, .sl 1 (t :: tg).length, .sl 2 p.2.length], hout := [], ret := i64 p.1, σ := [(0, some 0), (1, some 1), (2, some 3)] })]⟩ (told1 _ (by rw [hP]; exact (calls_cons (HA.out) (calls_cons (HB.out) calls_nil)))) rfl ?_ ?_; rotate_left 1)
                        · repeat first | refine lwp_seq fun K hK => ?_ | (with_reducible refine gA ?_; apply_assumption -exfalso -symm) | refine Stp.h ?_ | refine gF rfl ?_ | refine gG rfl ?_ | refine gM hC rfl sd ?_
                          refine lwp_condS hC rfl sd ?_ ?_ <;> intro hb
                          · have hlt : missI a t k + q.1 < p.1 := by simpa using hb
                            have e : bk M r a t lv tg b (k + 1) = some (missI a t k + q.1, (k : Int) :: q.2) := by rw [E.out]; exact if_pos hlt
                            have E2 := Lib.hid e
                            clear e hb hlt
                            repeat first | refine lwp_seq fun K hK => ?_ | (with_reducible refine gA ?_; apply_assumption -exfalso -symm) | refine Stp.h ?_ | refine gF rfl ?_ | refine gG rfl ?_ | refine gM hC rfl sd ?_
                            refine gA ⟨k + 1, ?_, ?_, sub_intro hm [(0, some 0), (1, some 1), (2, some 2), (3, some 4)] rfl ?_⟩
                            · omega
                            · omega
                            · rw [E2.out]
                              exact sd
                          · have hlt : ¬ missI a t k + q.1 < p.1 := by simpa using hb
                            have e : bk M r a t lv tg b (k + 1) = some p := by rw [E.out]; exact if_neg hlt
                            have E2 := Lib.hid e
                            clear e hb hlt
                            repeat first | refine lwp_seq fun K hK => ?_ | (with_reducible refine gA ?_; apply_assumption -exfalso -symm) | refine Stp.h ?_ | refine gF rfl ?_ | refine gG rfl ?_ | refine gM hC rfl sd ?_
                            refine gA ⟨k + 1, ?_, ?_, sub_intro hm [(0, some 0), (1, some 1), (2, some 2), (3, some 3)] rfl ?_⟩
                            · omega
                            · omega
                            · rw [E2.out]
                              exact sd
                        · exact sd
                · exact sd
            · exact sd
          · have hnr' : (k : Int) - b > r ∨ ¬ (k : Int) - b > r ∧ b - (k : Int) > r := by
              unfold nearB at hnr
              simp only [Bool.and_eq_true, decide_eq_true_eq] at hnr
              omega
            have e := HN1.out hnr
            have E := Lib.hid e
            clear hnr e
            rcases hnr' with hq | ⟨hq1, hq2⟩
            · repeat first | refine lwp_seq fun K hK => ?_ | (with_reducible refine gA ?_; apply_assumption -exfalso -symm) | refine Stp.h ?_ | refine gF rfl ?_ | refine gG rfl ?_ | refine gM hC rfl ⟨⟩ ?_
              (refine lwp_region hC ⟨[(6, { b := some true }), (7, { g := some false }), (8, { g := some false }), (9, { g := some false }), (10, { g := some false }), (11, { g := some false }), (12, { g := some false })], [], []⟩ (told0 _ _) rfl ?_ ?_; rotate_left 1)
              · repeat first | refine lwp_seq fun K hK => ?_ | (with_reducible refine gA ?_; apply_assumption -exfalso -symm) | refine Stp.h ?_ | refine gF rfl ?_ | refine gG rfl ?_ | refine gM hC rfl sd ?_
                refine lwp_condS hC rfl sd ?_ ?_ <;> intro hb
                · clear hb
                  repeat first | refine lwp_seq fun K hK => ?_ | (with_reducible refine gA ?_; apply_assumption -exfalso -symm) | refine Stp.h ?_ | refine gF rfl ?_ | refine gG rfl ?_ | refine gM hC rfl sd ?_
                  refine gA ⟨k + 1, ?_, ?_, sub_intro hm [(0, some 0), (1, some 1), (2, some 2), (3, some 3)] rfl ?_⟩
                  · omega
                  · omega
                  · rw [E.out]
                    exact sd
                · exact absurd hb (by simp)
              · exact sd
            · repeat first | refine lwp_seq fun K hK => ?_ | (with_reducible refine gA ?_; apply_assumption -exfalso -symm) | refine Stp.h ?_ | refine gF rfl ?_ | refine gG rfl ?_ | refine gM hC rfl ⟨⟩ ?_
              (refine lwp_region hC ⟨[(6, { b := some false }), (12, { b := some true })], [], []⟩ (told0 _ _) rfl ?_ ?_; rotate_left 1)
              · repeat first | refine lwp_seq fun K hK => ?_ | (with_reducible refine gA ?_; apply_assumption -exfalso -symm) | refine Stp.h ?_ | refine gF rfl ?_ | refine gG rfl ?_ | refine gM hC rfl sd ?_
                refine lwp_condS hC rfl sd ?_ ?_ <;> intro hb
                · clear hb
                  repeat first | refine lwp_seq fun K hK => ?_ | (with_reducible refine gA ?_; apply_assumption -exfalso -symm) | refine Stp.h ?_ | refine gF rfl ?_ | refine gG rfl ?_ | refine gM hC rfl sd ?_
                  refine gA ⟨k + 1, ?_, ?_, sub_intro hm [(0, some 0), (1, some 1), (2, some 2), (3, some 3)] rfl ?_⟩
                  · omega
                  · omega
                  · rw [E.out]
                    exact sd
                · simp at hb
                  omega
              · exact sd
        · obtain rfl : k = M + 1 := by omega
          clear hb
          repeat first | refine lwp_seq fun K hK => ?_ | (with_reducible refine gA ?_; apply_assumption -exfalso -symm) | refine Stp.h ?_ | refine gF rfl ?_ | refine gG rfl ?_ | refine gM hC rfl sd ?_
          (refine end_intro (by first | exact .inr rfl | exact .inl rfl) [(2, some 3)] rfl ?_)
          exact sd

end Go.Proofs.YtccddhoeampdjaaGreatDoor
