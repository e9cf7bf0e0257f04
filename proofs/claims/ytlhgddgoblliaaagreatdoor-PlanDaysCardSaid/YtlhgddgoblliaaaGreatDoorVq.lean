/- Chapter 9: days filled in, the program's. -/
import Derived.Test.YtlhgddgoblliaaaGreatDoorVp
set_option linter.unusedVariables false
set_option linter.unusedSimpArgs false
namespace Go.Proofs.YtlhgddgoblliaaaGreatDoor
open Go.RowKit Go.Sym

def tryF {α : Type} (f : Nat → Option α) (e : Nat) : Option α := (List.range e).findSome? f
theorem tryF_none {α : Type} {f : Nat → Option α} : ∀ {e : Nat}, (∀ i, i < e → f i = none) → tryF f e = none
  | 0, _ => rfl
  | e + 1, h => by
    have ih := tryF_none (e := e) fun i hi => h i (by omega)
    unfold tryF at ih ⊢
    rw [List.range_succ, List.findSome?_append, ih]
    simp [h e (by omega)]
theorem tryF_hit {α : Type} {f : Nat → Option α} {k : Nat} {x : α} (hx : f k = some x) (hb : ∀ i, i < k → f i = none) : ∀ {e : Nat}, k < e → tryF f e = some x
  | 0, h => by omega
  | e + 1, h => by
    by_cases he : k = e
    · subst he
      have ih := tryF_none hb
      unfold tryF at ih ⊢
      rw [List.range_succ, List.findSome?_append, ih]
      simp [hx]
    · have ih := tryF_hit hx hb (e := e) (by omega)
      unfold tryF at ih ⊢
      rw [List.range_succ, List.findSome?_append, ih]
      rfl
def fbF (l : List Jb) (H : List Int) (hi : Int) (g : List Int → Option (List Int)) (j : Nat) (D : List Int) (d : Nat) : Option (List Int) := if ckS l H hi (D.set j (d : Int)) j = 0 ∧ ltR l (D.set j (d : Int)) j j = false then g (D.set j (d : Int)) else none
def flF (l : List Jb) (H : List Int) (hi : Int) (e : Nat) : Nat → Nat → List Int → Option (List Int)
  | 0, _, D => some D
  | r + 1, j, D => tryF (fbF l H hi (flF l H hi e r (j + 1)) j D) e
def flD (l : List Jb) (H : List Int) (hi : Int) (e r j : Nat) (D : List Int) : List Int := (flF l H hi e r j D).getD D
def flIn (l : List Jb) (H : List Int) (lo hi : Int) (D : List Int) : List (Nat × Chunk) := [(0, jbCh l 1), (1, fmCh l), (2, .ro H.length 1 (.ints .i64 H)), (3, .obj (.ix (nmJ l))), (4, .row 3 l.length 1 (.ints .i64 D)), (5, .rb 129 [.sl 0 l.length, .sl 2 H.length, i64 lo, i64 hi, .mp 3, .sl 4 l.length])]
def Fl_i (l : List Jb) (H : List Int) (lo hi : Int) (last r j : Nat) (D : List Int) (σ : Ren) : Inst := { f := 63, hin := flIn l H lo hi D, args := [.ptr 5 0 0 0, i64 j, i64 last], hout := [(3, .obj (.ix (nmJ l))), (4, .row 3 l.length 1 (.ints .i64 (flD l H hi (last + 1) r j D)))], ret := bl (flF l H hi (last + 1) r j D).isSome, σ := σ }
theorem set_back {D : List Int} {j : Nat} {d : Int} (hj : j < D.length) (h : D.getD j 0 = -1) : (D.set j d).set j (-1) = D := by
  rw [List.set_set]
  refine List.ext_getElem? fun q => ?_
  rw [List.getElem?_set]
  split
  · rename_i e
    subst e
    rw [List.getD_eq_getElem?_getD, List.getElem?_eq_getElem hj] at h
    rw [List.getElem?_eq_getElem hj]
    exact congrArg some (by simpa using h.symm)
  · rfl
set_option maxRecDepth 20000 in
set_option maxHeartbeats 8000000 in
theorem Fl_s (l : List Jb) (H : List Int) (lo hi : Int) (last : Nat) (hl : l.length ≤ 1000) (hln : ∀ k, lnJ l k ≤ 1000) (hH : H.length ≤ 1000) (hlast : last < H.length) : ∀ (r j : Nat) (D : List Int) (σ : Ren), j + r = l.length → D.length = l.length → (∀ k, j ≤ k → k < l.length → D.getD k 0 = -1) → (Fl_i l H lo hi last r j D σ).ok Tryz.prog
  | 0, j, D, σ, hjr, hD, hm => by
    have e1 : flD l H hi (last + 1) 0 j D = D := rfl
    have e2 : (flF l H hi (last + 1) 0 j D).isSome = true := rfl
    unfold Fl_i
    rw [e1, e2]
    obtain rfl : j = l.length := by omega
    unfold flIn Inst.ok; dsimp only; refine spec_of_body (tys := tys) 6 Tryz.func63 (by kernel_rfl) rfl tys_ok rfl (Nat.le_of_ble_eq_true rfl) (fun _ _ h => (by cases h)) fun F hP hm hC hrd => ?_; conv => whnf
    repeat first | refine lwp_seq fun K hK => ?_ | (with_reducible refine gA ?_; apply_assumption -exfalso -symm) | refine Stp.h ?_ | refine gF rfl ?_ | refine gG rfl ?_ | refine gM hC rfl sd ?_
    refine lwp_condS hC rfl sd ?_ ?_ <;> intro hb
    · clear hb
      repeat first | refine lwp_seq fun K hK => ?_ | (with_reducible refine gA ?_; apply_assumption -exfalso -symm) | refine Stp.h ?_ | refine gF rfl ?_ | refine gG rfl ?_ | refine gM hC rfl sd ?_
      (refine end_intro (by first | exact .inr rfl | exact .inl rfl) [(3, some 3), (4, some 4)] rfl ?_)
      exact sd
    · exact absurd rfl hb
  | r + 1, j, D, σ, hjr, hD, hm => by
    have ih := fun D' σ' h1 h2 => Fl_s l H lo hi last hl hln hH hlast r (j + 1) D' σ' (by omega) h1 h2
    have hj : j < l.length := by omega
    have hback := fun d => set_back (d := d) (show j < D.length by omega) (hm j (Nat.le_refl _) hj)
    have hj0 : ((j : Int)).toNat = j := Int.toNat_natCast j
    have HIH := Lib.hid ih
    have HB := Lib.hid hback
    have HM := Lib.hid hm
    clear ih hback hm
    obtain ⟨g, hg⟩ : ∃ g, flF l H hi (last + 1) r (j + 1) = g := ⟨_, rfl⟩
    have hfl : flF l H hi (last + 1) (r + 1) j D = tryF (fbF l H hi g j D) (last + 1) := by rw [← hg]; rfl
    have HFL := Lib.hid hfl
    have HGG := Lib.hid hg
    clear hfl hg
    unfold Fl_i flIn Inst.ok; dsimp only; refine spec_of_body (tys := tys) 6 Tryz.func63 (by kernel_rfl) rfl tys_ok rfl (Nat.le_of_ble_eq_true rfl) (fun _ _ h => (by cases h)) fun F hP hm hC hrd => ?_; conv => whnf
    repeat first | refine lwp_seq fun K hK => ?_ | (with_reducible refine gA ?_; apply_assumption -exfalso -symm) | refine Stp.h ?_ | refine gF rfl ?_ | refine gG rfl ?_ | refine gM hC rfl sd ?_
    refine lwp_condS hC rfl sd ?_ ?_ <;> intro hb
    · omega
    · clear hb
      repeat first | refine lwp_seq fun K hK => ?_ | (with_reducible refine gA ?_; apply_assumption -exfalso -symm) | refine Stp.h ?_ | refine gF rfl ?_ | refine gG rfl ?_ | refine gM hC rfl sd ?_
      refine lwp_loop (fun d : Nat => ⟨[(17, i64 d), (16, i64 ((last + 1 : Nat) : Int)), (0, .ptr 5 0 0 0), (1, i64 j), (2, i64 last)], [(0, jbCh l 1), (1, fmCh l), (2, .ro H.length 1 (.ints .i64 H)), (3, .obj (.ix (nmJ l))), (4, .row 3 l.length 1 (.ints .i64 D)), (5, .rb 129 [.sl 0 l.length, .sl 2 H.length, i64 lo, i64 hi, .mp 3, .sl 4 l.length])], 6⟩) (fun d => d ≤ last + 1 ∧ ∀ i, i < d → fbF l H hi g j D i = none) (fun d => last + 1 - d) 0 ⟨?_, sub_intro hm [(0, some 0), (1, some 1), (2, some 2), (3, some 3), (4, some 4), (5, some 5)] rfl ?_⟩ ?_
      · exact ⟨Nat.zero_le _, fun i hi => absurd hi (Nat.not_lt_zero _)⟩
      · exact sd
      · rintro d ⟨hd, hf⟩
        have hdd : ((d : Int)).toNat = d := Int.toNat_natCast d
        have HF := Lib.hid hf
        clear hf
        repeat first | refine lwp_seq fun K hK => ?_ | (with_reducible refine gA ?_; apply_assumption -exfalso -symm) | refine Stp.h ?_ | refine gF rfl ?_ | refine gG rfl ?_ | refine gM hC rfl sd ?_
        refine lwp_condS hC rfl sd ?_ ?_ <;> intro hb
        · have hd2 : d < last + 1 := by omega
          clear hb
          repeat first | refine lwp_seq fun K hK => ?_ | (with_reducible refine gA ?_; apply_assumption -exfalso -symm) | refine Stp.h ?_ | refine gF rfl ?_ | refine gG rfl ?_ | refine gM hC rfl sd ?_
          rw [hj0]
          have hDl : (D.set j (d : Int)).length = l.length := by rw [List.length_set]; exact hD
          have hDj : dyD (D.set j (d : Int)) j = d := by unfold dyD; rw [List.getD_eq_getElem?_getD, List.getElem?_set_self (by omega)]; rfl
          have hDm : ∀ k, j + 1 ≤ k → k < l.length → (D.set j (d : Int)).getD k 0 = -1 := fun k h1 h2 => by
            rw [List.getD_eq_getElem?_getD, List.getElem?_set_ne (by omega), ← List.getD_eq_getElem?_getD]
            exact HM.out k (by omega) h2
          have hbk := HB.out (d : Int)
          have hfb : fbF l H hi g j D d = if ckS l H hi (D.set j (d : Int)) j = 0 ∧ ltR l (D.set j (d : Int)) j j = false then g (D.set j (d : Int)) else none := rfl
          obtain ⟨E, hE⟩ : ∃ E, D.set j (d : Int) = E := ⟨_, rfl⟩
          rw [hE] at hDl hDj hDm hbk hfb
          rw [hE]
          clear hE
          have hck := Ck_s l H lo hi E j [(0, some 0), (1, some 1), (2, some 2), (3, some 3), (4, some 4), (5, some 5)] hj hl (hln j) hDl (by rw [hDj]; omega)
          have hlt := Lt_s l H lo hi E j [(0, some 0), (1, some 1), (2, some 2), (3, some 3), (4, some 4), (5, some 5)] hj hl hln hDl
          unfold Ck_i at hck
          unfold Lt_i at hlt
          obtain ⟨c, hc⟩ : ∃ c, ckS l H hi E j = c := ⟨_, rfl⟩
          obtain ⟨b, hbe⟩ : ∃ b, ltR l E j j = b := ⟨_, rfl⟩
          rw [hc] at hck
          rw [hbe] at hlt
          rw [hc, hbe] at hfb
          have HCK := Lib.hid hck
          have HLT := Lib.hid hlt
          have HBK := Lib.hid hbk
          have HFB := Lib.hid hfb
          clear hck hlt hbk hfb
          by_cases hc0 : c = 0
          · subst hc0
            cases b with
            | true =>
              have hno : fbF l H hi g j D d = none := by rw [HFB.out, if_neg (fun h => by cases h.2)]
              have HNO := Lib.hid hno
              clear hno
              repeat first | refine lwp_seq fun K hK => ?_ | (with_reducible refine gA ?_; apply_assumption -exfalso -symm) | refine Stp.h ?_ | refine gF rfl ?_ | refine gG rfl ?_
              (refine lwp_region hC ⟨[(4, { b := some true }), (10, { b := some false }), (11, { g := some false }), (12, { g := some false }), (13, { g := some false }), (14, { g := some false }), (15, { g := some false })], [], [(2, { f := 60, hin := sqIn l H lo hi E, args := [.ptr 5 0 0 0, i64 j], hout := [(3, .obj (.ix (nmJ l)))], ret := i64 0, σ := [(0, some 0), (1, some 1), (2, some 2), (3, some 3), (4, some 4), (5, some 5)] }), (7, { f := 126, hin := sqIn l H lo hi E, args := [.ptr 5 0 0 0, i64 j], hout := [(3, .obj (.ix (nmJ l)))], ret := bl true, σ := [(0, some 0), (1, some 1), (2, some 2), (3, some 3), (4, some 4), (5, some 5)] })]⟩ (told1 _ (by rw [hP]; exact (calls_cons (HCK.out) (calls_cons (HLT.out) calls_nil)))) rfl ?_ ?_; rotate_left 1)
              · repeat first | refine lwp_seq fun K hK => ?_ | (with_reducible refine gA ?_; apply_assumption -exfalso -symm) | refine Stp.h ?_ | refine gF rfl ?_ | refine gG rfl ?_ | refine gM hC rfl sd ?_
                refine lwp_condS hC rfl sd ?_ ?_ <;> intro hb
                · simp at hb
                · clear hb
                  repeat first | refine lwp_seq fun K hK => ?_ | (with_reducible refine gA ?_; apply_assumption -exfalso -symm) | refine Stp.h ?_ | refine gF rfl ?_ | refine gG rfl ?_ | refine gM hC rfl sd ?_
                  rw [hj0, HBK.out]
                  refine gA ⟨d + 1, ?_, ?_, sub_intro hm [(0, some 0), (1, some 1), (2, some 2), (3, some 3), (4, some 4), (5, some 5)] rfl ?_⟩
                  · refine ⟨hd2, fun i hi => ?_⟩
                    by_cases e : i = d
                    · subst e; exact HNO.out
                    · exact HF.out i (by omega)
                  · omega
                  · exact sd
              · exact sd
            | false =>
              have hyes : fbF l H hi g j D d = g E := by rw [HFB.out, if_pos ⟨rfl, rfl⟩]
              have hih := HIH.out E [(0, some 0), (1, some 1), (2, some 2), (3, some 3), (4, some 4), (5, some 5)] hDl hDm
              unfold Fl_i flD at hih
              rw [HGG.out] at hih
              obtain ⟨x, hx⟩ : ∃ x, g E = x := ⟨_, rfl⟩
              rw [hx] at hih hyes
              have HI := Lib.hid hih
              have HNO := Lib.hid hyes
              clear hih hyes hx
              cases x with
              | none =>
                repeat first | refine lwp_seq fun K hK => ?_ | (with_reducible refine gA ?_; apply_assumption -exfalso -symm) | refine Stp.h ?_ | refine gF rfl ?_ | refine gG rfl ?_
                (refine lwp_region hC ⟨[(4, { b := some true }), (10, { b := some true })], [], [(2, { f := 60, hin := sqIn l H lo hi E, args := [.ptr 5 0 0 0, i64 j], hout := [(3, .obj (.ix (nmJ l)))], ret := i64 0, σ := [(0, some 0), (1, some 1), (2, some 2), (3, some 3), (4, some 4), (5, some 5)] }), (7, { f := 126, hin := sqIn l H lo hi E, args := [.ptr 5 0 0 0, i64 j], hout := [(3, .obj (.ix (nmJ l)))], ret := bl false, σ := [(0, some 0), (1, some 1), (2, some 2), (3, some 3), (4, some 4), (5, some 5)] }), (15, { f := 63, hin := flIn l H lo hi E, args := [.ptr 5 0 0 0, i64 ((j + 1 : Nat) : Int), i64 last], hout := [(3, .obj (.ix (nmJ l))), (4, .row 3 l.length 1 (.ints .i64 E))], ret := bl false, σ := [(0, some 0), (1, some 1), (2, some 2), (3, some 3), (4, some 4), (5, some 5)] })]⟩ (told1 _ (by rw [hP]; exact (calls_cons (HCK.out) (calls_cons (HLT.out) (calls_cons (HI.out) calls_nil))))) rfl ?_ ?_; rotate_left 1)
                · repeat first | refine lwp_seq fun K hK => ?_ | (with_reducible refine gA ?_; apply_assumption -exfalso -symm) | refine Stp.h ?_ | refine gF rfl ?_ | refine gG rfl ?_ | refine gM hC rfl sd ?_
                  refine lwp_condS hC rfl sd ?_ ?_ <;> intro hb
                  · simp at hb
                  · clear hb
                    repeat first | refine lwp_seq fun K hK => ?_ | (with_reducible refine gA ?_; apply_assumption -exfalso -symm) | refine Stp.h ?_ | refine gF rfl ?_ | refine gG rfl ?_ | refine gM hC rfl sd ?_
                    rw [hj0, HBK.out]
                    refine gA ⟨d + 1, ?_, ?_, sub_intro hm [(0, some 0), (1, some 1), (2, some 2), (3, some 3), (4, some 4), (5, some 5)] rfl ?_⟩
                    · refine ⟨hd2, fun i hi => ?_⟩
                      by_cases e : i = d
                      · subst e; exact HNO.out
                      · exact HF.out i (by omega)
                    · omega
                    · exact sd
                · exact sd
              | some y =>
                have hr := HFL.out
                rw [tryF_hit HNO.out HF.out hd2] at hr
                have e1 : (flF l H hi (last + 1) (r + 1) j D).isSome = true := by rw [hr]; rfl
                have e2 : flD l H hi (last + 1) (r + 1) j D = y := by unfold flD; rw [hr]; rfl
                have E1 := Lib.hid e1
                have E2 := Lib.hid e2
                clear hr e1 e2
                repeat first | refine lwp_seq fun K hK => ?_ | (with_reducible refine gA ?_; apply_assumption -exfalso -symm) | refine Stp.h ?_ | refine gF rfl ?_ | refine gG rfl ?_
                (refine lwp_region hC ⟨[(4, { b := some true }), (10, { b := some true })], [], [(2, { f := 60, hin := sqIn l H lo hi E, args := [.ptr 5 0 0 0, i64 j], hout := [(3, .obj (.ix (nmJ l)))], ret := i64 0, σ := [(0, some 0), (1, some 1), (2, some 2), (3, some 3), (4, some 4), (5, some 5)] }), (7, { f := 126, hin := sqIn l H lo hi E, args := [.ptr 5 0 0 0, i64 j], hout := [(3, .obj (.ix (nmJ l)))], ret := bl false, σ := [(0, some 0), (1, some 1), (2, some 2), (3, some 3), (4, some 4), (5, some 5)] }), (15, { f := 63, hin := flIn l H lo hi E, args := [.ptr 5 0 0 0, i64 ((j + 1 : Nat) : Int), i64 last], hout := [(3, .obj (.ix (nmJ l))), (4, .row 3 l.length 1 (.ints .i64 y))], ret := bl true, σ := [(0, some 0), (1, some 1), (2, some 2), (3, some 3), (4, some 4), (5, some 5)] })]⟩ (told1 _ (by rw [hP]; exact (calls_cons (HCK.out) (calls_cons (HLT.out) (calls_cons (HI.out) calls_nil))))) rfl ?_ ?_; rotate_left 1)
                · repeat first | refine lwp_seq fun K hK => ?_ | (with_reducible refine gA ?_; apply_assumption -exfalso -symm) | refine Stp.h ?_ | refine gF rfl ?_ | refine gG rfl ?_ | refine gM hC rfl sd ?_
                  refine lwp_condS hC rfl sd ?_ ?_ <;> intro hb
                  · clear hb
                    repeat first | refine lwp_seq fun K hK => ?_ | (with_reducible refine gA ?_; apply_assumption -exfalso -symm) | refine Stp.h ?_ | refine gF rfl ?_ | refine gG rfl ?_ | refine gM hC rfl sd ?_
                    (refine end_intro (by first | exact .inr rfl | exact .inl rfl) [(3, some 3), (4, some 4)] rfl ?_)
                    rw [E1.out, E2.out]
                    exact sd
                  · simp at hb
                · exact sd
          · have hno : fbF l H hi g j D d = none := by rw [HFB.out, if_neg (fun h => hc0 h.1)]
            have HNO := Lib.hid hno
            clear hno
            repeat first | refine lwp_seq fun K hK => ?_ | (with_reducible refine gA ?_; apply_assumption -exfalso -symm) | refine Stp.h ?_ | refine gF rfl ?_ | refine gG rfl ?_
            (refine lwp_region hC ⟨[(4, { b := some false }), (5, { g := some false }), (6, { g := some false }), (7, { g := some false }), (8, { g := some false }), (10, { b := some false }), (11, { g := some false }), (12, { g := some false }), (13, { g := some false }), (14, { g := some false }), (15, { g := some false })], [], [(2, { f := 60, hin := sqIn l H lo hi E, args := [.ptr 5 0 0 0, i64 j], hout := [(3, .obj (.ix (nmJ l)))], ret := i64 c, σ := [(0, some 0), (1, some 1), (2, some 2), (3, some 3), (4, some 4), (5, some 5)] })]⟩ (told1 _ (by rw [hP]; exact (calls_cons (HCK.out) calls_nil))) rfl ?_ ?_; rotate_left 1)
            · repeat first | refine lwp_seq fun K hK => ?_ | (with_reducible refine gA ?_; apply_assumption -exfalso -symm) | refine Stp.h ?_ | refine gF rfl ?_ | refine gG rfl ?_ | refine gM hC rfl sd ?_
              refine lwp_condS hC rfl sd ?_ ?_ <;> intro hb
              · simp at hb
              · clear hb
                repeat first | refine lwp_seq fun K hK => ?_ | (with_reducible refine gA ?_; apply_assumption -exfalso -symm) | refine Stp.h ?_ | refine gF rfl ?_ | refine gG rfl ?_ | refine gM hC rfl sd ?_
                rw [hj0, HBK.out]
                refine gA ⟨d + 1, ?_, ?_, sub_intro hm [(0, some 0), (1, some 1), (2, some 2), (3, some 3), (4, some 4), (5, some 5)] rfl ?_⟩
                · refine ⟨hd2, fun i hi => ?_⟩
                  by_cases e : i = d
                  · subst e; exact HNO.out
                  · exact HF.out i (by omega)
                · omega
                · exact sd
            · exact sd
        · obtain rfl : d = last + 1 := by omega
          have hr := HFL.out
          rw [tryF_none HF.out] at hr
          have e1 : (flF l H hi (last + 1) (r + 1) j D).isSome = false := by rw [hr]; rfl
          have e2 : flD l H hi (last + 1) (r + 1) j D = D := by unfold flD; rw [hr]; rfl
          have E1 := Lib.hid e1
          have E2 := Lib.hid e2
          clear hb hr e1 e2
          repeat first | refine lwp_seq fun K hK => ?_ | (with_reducible refine gA ?_; apply_assumption -exfalso -symm) | refine Stp.h ?_ | refine gF rfl ?_ | refine gG rfl ?_ | refine gM hC rfl sd ?_
          (refine end_intro (by first | exact .inr rfl | exact .inl rfl) [(3, some 3), (4, some 4)] rfl ?_)
          rw [E1.out, E2.out]
          exact sd

end Go.Proofs.YtlhgddgoblliaaaGreatDoor
