/- Chapter 9: the check of jobs, the reference's. -/
import Derived.Test.YtlhgddgoblliaaaGreatDoorVe
set_option linter.unusedVariables false
set_option linter.unusedSimpArgs false
namespace Go.Proofs.YtlhgddgoblliaaaGreatDoor
open Go.RowKit Go.Sym

def nmB (s : ByteArray) (j : Jb) : Bool := decide (j.name = s)
def fnd (l : List Jb) (s : ByteArray) : Int := idxF (nmB s) l
def Fnd_i (l : List Jb) (s : ByteArray) (σ : Ren) : Inst := { f := 66, hin := jobIn l, args := [.sl 0 l.length, Sb s], hout := [], ret := i64 (fnd l s), σ := σ }
set_option maxRecDepth 20000 in
theorem Fnd_s (l : List Jb) (s : ByteArray) (σ : Ren) (hl : l.length ≤ 1000) : (Fnd_i l s σ).ok Tryz.prog := by
  unfold Fnd_i jobIn Inst.ok; dsimp only; refine spec_of_body (tys := tys) 2 Tryz.func66 (by kernel_rfl) rfl tys_ok rfl (Nat.le_of_ble_eq_true rfl) (fun _ _ h => (by cases h)) fun F hP hm hC hrd => ?_; conv => whnf
  repeat first | refine lwp_seq fun K hK => ?_ | (with_reducible refine gA ?_; apply_assumption -exfalso -symm) | refine Stp.h ?_ | refine gF rfl ?_ | refine gG rfl ?_ | refine gM hC rfl sd ?_
  refine lwp_loop (fun k : Nat => ⟨[(5, i64 k), (0, .sl 0 l.length), (1, Sb s)], [(0, jbCh l 1), (1, fmCh l)], 2⟩) (fun k => k ≤ l.length ∧ ∀ i : Nat, i < k → nmB s (l.getD i jbD) = false) (fun k => l.length - k) 0 ⟨?_, sub_intro hm [(0, some 0), (1, some 1)] rfl ?_⟩ ?_
  · exact ⟨Nat.zero_le _, fun i hi => absurd hi (Nat.not_lt_zero _)⟩
  · exact sd
  · rintro k ⟨hk, hf⟩
    have hkk : ((k : Int)).toNat = k := Int.toNat_natCast k
    have HF := Lib.hid hf
    clear hf
    repeat first | refine lwp_seq fun K hK => ?_ | (with_reducible refine gA ?_; apply_assumption -exfalso -symm) | refine Stp.h ?_ | refine gF rfl ?_ | refine gG rfl ?_ | refine gM hC rfl sd ?_
    refine lwp_condS hC rfl sd ?_ ?_ <;> intro hb
    · have hk2 : k < l.length := by omega
      clear hb
      repeat first | refine lwp_seq fun K hK => ?_ | (with_reducible refine gA ?_; apply_assumption -exfalso -symm) | refine Stp.h ?_ | refine gF rfl ?_ | refine gG rfl ?_ | refine gM hC rfl ⟨⟩ ?_
      (refine lwp_region hC ⟨[], [], []⟩ (told0 _ _) rfl ?_ ?_; rotate_left 1)
      · rw [hkk]
        repeat first | refine lwp_seq fun K hK => ?_ | (with_reducible refine gA ?_; apply_assumption -exfalso -symm) | refine Stp.h ?_ | refine gF rfl ?_ | refine gG rfl ?_
        refine lwp_condS hC rfl sd ?_ ?_ <;> intro hb
        · have hE : fnd l s = k := idxF_hit hk2 (show nmB s (l.getD k jbD) = true from decide_eq_true hb) HF.out
          clear hb
          repeat first | refine lwp_seq fun K hK => ?_ | (with_reducible refine gA ?_; apply_assumption -exfalso -symm) | refine Stp.h ?_ | refine gF rfl ?_ | refine gG rfl ?_ | refine gM hC rfl sd ?_
          (refine end_intro (by first | exact .inr rfl | exact .inl rfl) [] rfl ?_)
          rw [hE]
          exact sd
        · have hne : nmB s (l.getD k jbD) = false := decide_eq_false hb
          have HN := Lib.hid hne
          clear hb hne
          repeat first | refine lwp_seq fun K hK => ?_ | (with_reducible refine gA ?_; apply_assumption -exfalso -symm) | refine Stp.h ?_ | refine gF rfl ?_ | refine gG rfl ?_ | refine gM hC rfl sd ?_
          refine gA ⟨k + 1, ?_, ?_, sub_intro hm [(0, some 0), (1, some 1)] rfl ?_⟩
          · refine ⟨hk2, fun i hi => ?_⟩
            by_cases e : i = k
            · subst e; exact HN.out
            · exact HF.out i (by omega)
          · omega
          · exact sd
      · rw [hkk]
        exact sd
    · have hk3 : k = l.length := by omega
      subst hk3
      have hE : fnd l s = -1 := idxF_none HF.out
      repeat first | refine lwp_seq fun K hK => ?_ | (with_reducible refine gA ?_; apply_assumption -exfalso -symm) | refine Stp.h ?_ | refine gF rfl ?_ | refine gG rfl ?_ | refine gM hC rfl sd ?_
      (refine end_intro (by first | exact .inr rfl | exact .inl rfl) [] rfl ?_)
      rw [hE]
      exact sd
/-- The place of a name, where it is one. -/
theorem fnd_is {l : List Jb} {s : ByteArray} : (memS (nmJ l) s = true → fnd l s = ixV (nmJ l) s ∧ 0 ≤ fnd l s ∧ fnd l s < l.length) ∧ (memS (nmJ l) s = false → fnd l s = -1) := by
  have e1 : ∀ l : List Jb, (nmJ l).findIdx? (fun x => decide (s = x)) = if l.any (nmB s) = true then some (l.findIdx (nmB s)) else none := by
    intro l
    induction l with
    | nil => rfl
    | cons j l ih =>
      show (j.name :: nmJ l).findIdx? _ = _
      rw [List.findIdx?_cons, ih, List.findIdx_cons]
      by_cases h : j.name = s
      · subst h
        simp [nmB]
      · have h' : ¬ s = j.name := fun e => h e.symm
        simp [nmB, h, h']
  have e2 : memS (nmJ l) s = l.any (nmB s) := by
    rw [memS_find, e1]
    cases h : l.any (nmB s) <;> simp
  constructor
  · intro h
    rw [e2] at h
    have hlt : l.findIdx (nmB s) < l.length := List.findIdx_lt_length.2 (List.any_eq_true.1 h)
    have : fnd l s = l.findIdx (nmB s) := if_pos h
    rw [this]
    unfold ixV
    rw [e1, if_pos h]
    exact ⟨rfl, by omega, by omega⟩
  · intro h
    rw [e2] at h
    exact if_neg (by rw [h]; simp)
/-- The first one with its name. -/
theorem fnd_first {l : List Jb} {k : Nat} (hk : k < l.length) : (fnd l (l.getD k jbD).name ≠ k) ↔ memS (nmJ (l.take k)) (l.getD k jbD).name = true := by
  have hh : nmB (l.getD k jbD).name (l.getD k jbD) = true := decide_eq_true rfl
  constructor
  · intro h
    cases e : memS (nmJ (l.take k)) (l.getD k jbD).name with
    | true => rfl
    | false =>
      refine absurd (idxF_hit hk hh fun i hi => ?_) h
      cases e2 : nmB (l.getD k jbD).name (l.getD i jbD) with
      | false => rfl
      | true =>
        have hn : (l.getD i jbD).name = (l.getD k jbD).name := of_decide_eq_true e2
        have : (l.getD k jbD).name ∈ nmJ (l.take k) := by
          unfold nmJ
          refine List.mem_map.2 ⟨l.getD i jbD, ?_, hn⟩
          have hi' : i < (l.take k).length := by rw [List.length_take]; omega
          have : (l.take k)[i] = l.getD i jbD := by
            rw [List.getElem_take, List.getD_eq_getElem?_getD, List.getElem?_eq_getElem (by omega)]; rfl
          rw [← this]
          exact List.getElem_mem hi'
        rw [memS_iff.2 this] at e; cases e
  · intro h e
    obtain ⟨j, hj, hn⟩ := List.mem_map.1 (memS_iff.1 h)
    obtain ⟨i, hi, rfl⟩ := List.getElem_of_mem hj
    have hi' : i < k := by rw [List.length_take] at hi; omega
    have hit : nmB (l.getD k jbD).name (l.getD i jbD) = true := by
      refine decide_eq_true ?_
      rw [← hn, List.getElem_take, List.getD_eq_getElem?_getD, List.getElem?_eq_getElem (by omega)]; rfl
    have hle : l.findIdx (nmB (l.getD k jbD).name) ≤ i := by
      refine Nat.le_of_not_lt fun hlt => ?_
      have := List.not_of_lt_findIdx hlt
      have hit2 : nmB (l.getD k jbD).name l[i] = true := by
        have e : l.getD i jbD = l[i] := by rw [List.getD_eq_getElem?_getD, List.getElem?_eq_getElem (by omega)]; rfl
        rw [← e]; exact hit
      rw [this] at hit2
      cases hit2
    have hany : l.any (nmB (l.getD k jbD).name) = true := by
      rw [List.getD_eq_getElem?_getD, List.getElem?_eq_getElem hk] at hh
      exact List.any_eq_true.2 ⟨_, List.getElem_mem hk, by rw [List.getD_eq_getElem?_getD, List.getElem?_eq_getElem hk]; exact hh⟩
    unfold fnd idxF at e
    rw [if_pos hany] at e
    omega

/-! The reference's check. -/
theorem kd3 (s a b c : ByteArray) : (bif (bif decide (s ≠ a) then decide (s ≠ b) else false) then decide (s ≠ c) else false) = !(decide (s = a) || (decide (s = b) || (decide (s = c) || false))) := by
  by_cases h1 : s = a <;> by_cases h2 : s = b <;> by_cases h3 : s = c <;> simp [h1, h2, h3]
theorem kdX_is (s : ByteArray) : (bif (bif decide (s ≠ kT) then decide (s ≠ kG) else false) then decide (s ≠ kW) else false) = !memS kN s := kd3 s _ _ _
theorem fndW {l : List Jb} {k : Nat} (hk : k < l.length) : decide (fnd l (l.getD k jbD).name ≠ k) = memS (nmJ (l.take k)) (l.getD k jbD).name := by
  cases e : memS (nmJ (l.take k)) (l.getD k jbD).name with
  | true => exact decide_eq_true ((fnd_first hk).2 e)
  | false => exact decide_eq_false fun h => by rw [(fnd_first hk).1 h] at e; cases e
/-- Taking away, again and again: as the program does it. -/
theorem chs_known {l : List Jb} (h : chsE l = 0) : ∀ i q, i < l.length → q < lnJ l i → memS (nmJ l) (afJ l i q) = true := fun i q hi hq => by
  have h1 := firstR_zero h i hi
  have h2 := firstR_zero (f := afAt (nmJ l) (l.getD i jbD).af) (n := (l.getD i jbD).af.length) h1 q hq
  have h3 := (whenS_zero (by decide)).1 ((firstS_cons _ _).1 h2).1
  simpa using h3
def frB (ns : List ByteArray) (D : List Bool) (af : List ByteArray) (q : Nat) : Bool := (af.take q).all (dnV ns D)
theorem frB_step {ns : List ByteArray} {D : List Bool} {af : List ByteArray} {q : Nat} (h : q < af.length) : frB ns D af (q + 1) = (frB ns D af q && dnV ns D (af.getD q ByteArray.empty)) := by
  unfold frB
  rw [take_snoc af ByteArray.empty q h, List.all_append]
  simp
theorem frB_end (ns : List ByteArray) (D : List Bool) (af : List ByteArray) : frB ns D af af.length = !af.any (undB ns D) := by
  unfold frB
  rw [List.take_length, List.not_any_eq_all_not]
  congr 1
  funext s
  simp [undB]
def stR (ns : List ByteArray) (l : List Jb) (D : List Bool) : Nat → List Bool
  | 0 => D
  | i + 1 => if frB ns (stR ns l D i) (l.getD i jbD).af (l.getD i jbD).af.length = true then (stR ns l D i).set i true else stR ns l D i
def rdR (ns : List ByteArray) (l : List Jb) : Nat → List Bool
  | 0 => List.replicate l.length false
  | r + 1 => stR ns l (rdR ns l r) l.length
theorem stR_len (ns : List ByteArray) (l : List Jb) (D : List Bool) : ∀ i, (stR ns l D i).length = D.length
  | 0 => rfl
  | i + 1 => by
    simp only [stR]
    split
    · rw [List.length_set, stR_len ns l D i]
    · exact stR_len ns l D i
theorem rdR_len (ns : List ByteArray) (l : List Jb) : ∀ r, (rdR ns l r).length = l.length
  | 0 => List.length_replicate
  | r + 1 => by simp only [rdR, stR_len, rdR_len ns l r]
/-- What is done has what it needs done. -/
def InvD (ns : List ByteArray) (l : List Jb) (D : List Bool) : Prop := ∀ i, i < l.length → D.getD i false = true → frB ns D (l.getD i jbD).af (l.getD i jbD).af.length = true
theorem set_mono {D : List Bool} {i x : Nat} (h : D.getD x false = true) : (D.set i true).getD x false = true := by
  rw [List.getD_eq_getElem?_getD] at h ⊢
  rw [List.getElem?_set]
  split
  · rename_i e
    subst e
    cases e2 : D[i]? with
    | none => rw [e2] at h; cases h
    | some b => rw [if_pos (List.getElem?_eq_some_iff.1 e2).1]; rfl
  · exact h
theorem frB_mono {ns : List ByteArray} {D : List Bool} {af : List ByteArray} {i q : Nat} (h : frB ns D af q = true) : frB ns (D.set i true) af q = true := by
  unfold frB at *
  rw [List.all_eq_true] at *
  exact fun x hx => set_mono (h x hx)
theorem st_same {ns : List ByteArray} {l : List Jb} {D : List Bool} (hD : InvD ns l D) : ∀ i, i ≤ l.length → stR ns l D i = stD ns l D i ∧ InvD ns l (stD ns l D i)
  | 0, _ => ⟨rfl, hD⟩
  | i + 1, hi => by
    obtain ⟨h1, h2⟩ := st_same hD i (by omega)
    have hfe := frB_end ns (stD ns l D i) (l.getD i jbD).af
    simp only [stR, stD]
    rw [h1]
    obtain ⟨E, hE⟩ : ∃ E, stD ns l D i = E := ⟨_, rfl⟩
    rw [hE] at h2 hfe ⊢
    by_cases hf : frB ns E (l.getD i jbD).af (l.getD i jbD).af.length = true
    · rw [if_pos hf]
      rw [← hfe, hf]
      refine ⟨rfl, fun x hx hd => ?_⟩
      by_cases e : x = i
      · subst e; exact frB_mono hf
      · refine frB_mono (h2 x hx ?_)
        rw [List.getD_eq_getElem?_getD, List.getElem?_set_ne (fun c => e c.symm), ← List.getD_eq_getElem?_getD] at hd
        exact hd
    · rw [if_neg hf]
      have hff : frB ns E (l.getD i jbD).af (l.getD i jbD).af.length = false := by simpa using hf
      rw [← hfe, hff]
      have hEi : E.getD i false = false := by
        cases e : E.getD i false with
        | false => rfl
        | true => exact absurd (h2 i (by omega) e) hf
      have : E.set i false = E := by
        refine List.ext_getElem? fun q => ?_
        rw [List.getElem?_set]
        split
        · rename_i e
          subst e
          split
          · rename_i hlt
            rw [List.getD_eq_getElem?_getD, List.getElem?_eq_getElem hlt] at hEi
            rw [List.getElem?_eq_getElem hlt]
            exact congrArg some hEi.symm
          · rename_i hlt
            rw [List.getElem?_eq_none (by omega)]
        · rfl
      rw [this]
      exact ⟨rfl, h2⟩
theorem rd_same {ns : List ByteArray} {l : List Jb} : ∀ r, rdR ns l r = rdD ns l r ∧ InvD ns l (rdD ns l r)
  | 0 => ⟨rfl, fun i hi h => by simp [rdD, List.getD, hi] at h⟩
  | r + 1 => by
    obtain ⟨h1, h2⟩ := rd_same (ns := ns) (l := l) r
    obtain ⟨h3, h4⟩ := st_same h2 l.length (Nat.le_refl _)
    simp only [rdR, rdD]
    rw [h1]
    exact ⟨h3, h4⟩
theorem cycB_R (l : List Jb) : cycB l = (rdR (nmJ l) l l.length).any (eqO false) := by unfold cycB; rw [(rd_same l.length).1]
structure Szs (l : List Jb) : Prop where
  n : ∀ k, (l.getD k jbD).name.size ≤ 1000000
def RCJ_i (l : List Jb) (σ : Ren) : Inst := { f := 14, hin := jobIn l, args := [.sl 0 l.length], hout := [], ret := i64 (jobsE l), σ := σ }
set_option maxRecDepth 20000 in
set_option maxHeartbeats 4000000 in
theorem RCJ_s (l : List Jb) (σ : Ren) (hl : l.length ≤ 1000) (hln : ∀ k, lnJ l k ≤ 1000) (hsz : Szs l) : (RCJ_i l σ).ok Tryz.prog := by
  unfold RCJ_i jobIn Inst.ok; dsimp only; refine spec_of_body (tys := tys) 2 Tryz.func14 (by kernel_rfl) rfl tys_ok rfl (Nat.le_of_ble_eq_true rfl) (fun _ _ h => (by cases h)) fun F hP hm hC hrd => ?_; conv => whnf
  repeat first | refine lwp_seq fun K hK => ?_ | (with_reducible refine gA ?_; apply_assumption -exfalso -symm) | refine Stp.h ?_ | refine gF rfl ?_ | refine gG rfl ?_ | refine gM hC rfl sd ?_
  refine lwp_condS hC rfl sd ?_ ?_ <;> intro hb
  · have e : jobsE l = 5 := if_pos hb
    clear hb
    repeat first | refine lwp_seq fun K hK => ?_ | (with_reducible refine gA ?_; apply_assumption -exfalso -symm) | refine Stp.h ?_ | refine gF rfl ?_ | refine gG rfl ?_ | refine gM hC rfl sd ?_
    (refine end_intro (by first | exact .inr rfl | exact .inl rfl) [] rfl ?_)
    rw [e]
    exact ⟨rfl, trivial⟩
  · have e : jobsE l = firstS [jbsE l, chsE l, whenS (cycB l) 33] := if_neg hb
    have E := Lib.hid e
    clear hb e
    repeat first | refine lwp_seq fun K hK => ?_ | (with_reducible refine gA ?_; apply_assumption -exfalso -symm) | refine Stp.h ?_ | refine gF rfl ?_ | refine gG rfl ?_ | refine gM hC rfl sd ?_
    refine lwp_loop (fun k : Nat => ⟨[(3, i64 k), (0, .sl 0 l.length)], [(0, jbCh l 1), (1, fmCh l)], 2⟩) (fun k => k ≤ l.length ∧ jbsE l = firstS (((List.range l.length).map (jbAt l)).drop k)) (fun k => l.length - k) 0 ⟨?_, sub_intro hm [(0, some 0), (1, some 1)] rfl ?_⟩ ?_
    · exact ⟨Nat.zero_le _, rfl⟩
    · exact sd
    · rintro k ⟨hk, hf⟩
      have hkk : ((k : Int)).toNat = k := Int.toNat_natCast k
      have hlk := hln k
      repeat first | refine lwp_seq fun K hK => ?_ | (with_reducible refine gA ?_; apply_assumption -exfalso -symm) | refine Stp.h ?_ | refine gF rfl ?_ | refine gG rfl ?_ | refine gM hC rfl sd ?_
      refine lwp_condS hC rfl sd ?_ ?_ <;> intro hb
      · have hk2 : k < l.length := by omega
        rw [firstR_drop _ _ _ hk2] at hf
        have HF := Lib.hid hf
        have hfw := fndW hk2
        have hkd := kdX_is (l.getD k jbD).kind
        clear hf hb
        repeat first | refine lwp_seq fun K hK => ?_ | (with_reducible refine gA ?_; apply_assumption -exfalso -symm) | refine Stp.h ?_ | refine gF rfl ?_ | refine gG rfl ?_
        (refine lwp_region hC ⟨[], [], []⟩ (told0 _ _) rfl ?_ ?_; rotate_left 1)
        · rw [hkk]
          repeat first | refine lwp_seq fun K hK => ?_ | (with_reducible refine gA ?_; apply_assumption -exfalso -symm) | refine Stp.h ?_ | refine gF rfl ?_ | refine gG rfl ?_
          (refine lwp_drawn2 hC (by rw [hP]; exact mixed) ⟨[], [], [(2, CheckName_i (l.getD k jbD).name), (6, Fnd_i l (l.getD k jbD).name [(0, some 0), (1, some 1)]), (9, When_i (memS (nmJ (l.take k)) (l.getD k jbD).name) 9), (23, When_i (!memS kN (l.getD k jbD).kind) 13), (28, When_i (decide ((lnJ l k : Int) > 8)) 5), (30, First_i [whenS (!nameOk (l.getD k jbD).name) 8, whenS (memS (nmJ (l.take k)) (l.getD k jbD).name) 9, whenS (!memS kN (l.getD k jbD).kind) 13, whenS (decide ((lnJ l k : Int) > 8)) 5] [(0, some 4)])]⟩ (told1 _ (by rw [hP]; exact (calls_cons (CheckName_s _ (hsz.n k)) (calls_cons (Fnd_s _ _ _ hl) (calls_cons (When_s _ _) (calls_cons (When_s _ _) (calls_cons (When_s _ _) (calls_cons (First_s _ _ (by simp)) calls_nil)))))))) [0, 1, 3, 0, 0, 16, 63, 0, 255, 511, 0, 1024, 3072, 8191, 16383, 32767, 65535, 131071, 262143, 524287, 1048575, 2097151, 4194303, 8388607, 0, 16777216, 50331648, 117440512, 268435455, 536870911, 1073741823, 2147483647] 32 0 rfl ?_ ?_; rotate_left 1)
          · repeat first | refine lwp_seq fun K hK => ?_ | (with_reducible refine gA ?_; apply_assumption -exfalso -symm) | refine Stp.h ?_ | refine gF rfl ?_ | refine gG rfl ?_ | refine gM hC rfl sd ?_
            refine lwp_condS hC rfl sd ?_ ?_ <;> intro hb
            · have hf := HF.out
              have e := E.out
              rw [if_neg (show ¬ jbAt l k = 0 from hb)] at hf
              have e2 : jobsE l = jbAt l k := by
                rw [e, hf]; simp only [firstS, if_neg (show ¬ jbAt l k = 0 from hb)]
              clear hf e HF E
              have HE := Lib.hid e2
              clear e2
              repeat first | refine lwp_seq fun K hK => ?_ | (with_reducible refine gA ?_; apply_assumption -exfalso -symm) | refine Stp.h ?_ | refine gF rfl ?_ | refine gG rfl ?_ | refine gM hC rfl sd ?_
              (refine end_intro (by first | exact .inr rfl | exact .inl rfl) [] rfl ?_)
              rw [HE.out]
              exact ⟨rfl, trivial⟩
            · have hf := HF.out
              rw [if_pos (show jbAt l k = 0 from hb)] at hf
              have HG := Lib.hid hf
              clear hb hf HF
              repeat first | refine lwp_seq fun K hK => ?_ | (with_reducible refine gA ?_; apply_assumption -exfalso -symm) | refine Stp.h ?_ | refine gF rfl ?_ | refine gG rfl ?_ | refine gM hC rfl sd ?_
              refine gA ⟨k + 1, ?_, ?_, sub_intro hm [(0, some 0), (1, some 1)] rfl ?_⟩
              · exact ⟨by omega, HG.out⟩
              · omega
              · exact sd
          · have hkd' := hkd.symm
            have hfw' := hfw.symm
            have hcl : ([whenS (!nameOk (l.getD k jbD).name) 8, whenS (memS (nmJ (l.take k)) (l.getD k jbD).name) 9, whenS (!memS kN (l.getD k jbD).kind) 13, whenS (decide ((lnJ l k : Int) > 8)) 5] : List Int).length = 4 := rfl
            clear hfw hkd
            simp only [AllL, All, cd_p, cp_p, cv_p, true_and, and_true, implies_true]
            exact ⟨⟨rfl, rfl, rfl⟩, hkd', id, id, id, id, id, id, hfw'⟩
        · rw [hkk]
          exact sd
      · obtain rfl : k = l.length := by omega
        rw [firstR_all] at hf
        have e := E.out
        rw [hf] at e
        have e : jobsE l = firstS [chsE l, whenS (cycB l) 33] := by rw [e]; simp only [firstS, if_true]
        have E2 := Lib.hid e
        clear hb hf e E
        repeat first | refine lwp_seq fun K hK => ?_ | (with_reducible refine gA ?_; apply_assumption -exfalso -symm) | refine Stp.h ?_ | refine gF rfl ?_ | refine gG rfl ?_ | refine gM hC rfl sd ?_
        refine lwp_loop (fun i : Nat => ⟨[(6, i64 i), (0, .sl 0 l.length)], [(0, jbCh l 1), (1, fmCh l)], 2⟩) (fun i => i ≤ l.length ∧ chsE l = firstS (((List.range l.length).map (chE l)).drop i)) (fun i => l.length - i) 0 ⟨?_, sub_intro hm [(0, some 0), (1, some 1)] rfl ?_⟩ ?_
        · exact ⟨Nat.zero_le _, rfl⟩
        · exact sd
        · rintro i ⟨hi, hf⟩
          have hii : ((i : Int)).toNat = i := Int.toNat_natCast i
          have hli := hln i
          repeat first | refine lwp_seq fun K hK => ?_ | (with_reducible refine gA ?_; apply_assumption -exfalso -symm) | refine Stp.h ?_ | refine gF rfl ?_ | refine gG rfl ?_ | refine gM hC rfl sd ?_
          refine lwp_condS hC rfl sd ?_ ?_ <;> intro hb
          · have hi2 : i < l.length := by omega
            rw [firstR_drop _ _ _ hi2] at hf
            have HF := Lib.hid hf
            clear hf hb
            repeat first | refine lwp_seq fun K hK => ?_ | (with_reducible refine gA ?_; apply_assumption -exfalso -symm) | refine Stp.h ?_ | refine gF rfl ?_ | refine gG rfl ?_ | refine gM hC rfl sd ?_
            refine lwp_loop (fun q : Nat => ⟨[(7, i64 q), (6, i64 i), (0, .sl 0 l.length)], [(0, jbCh l 1), (1, fmCh l)], 2⟩) (fun q => q ≤ lnJ l i ∧ chE l i = firstS (((List.range (l.getD i jbD).af.length).map (afAt (nmJ l) (l.getD i jbD).af)).drop q)) (fun q => lnJ l i - q) 0 ⟨?_, sub_intro hm [(0, some 0), (1, some 1)] rfl ?_⟩ ?_
            · exact ⟨Nat.zero_le _, rfl⟩
            · exact sd
            · rintro q ⟨hq, hg⟩
              have hqq : ((q : Int)).toNat = q := Int.toNat_natCast q
              repeat first | refine lwp_seq fun K hK => ?_ | (with_reducible refine gA ?_; apply_assumption -exfalso -symm) | refine Stp.h ?_ | refine gF rfl ?_ | refine gG rfl ?_
              (refine lwp_region hC ⟨[], [], []⟩ (told0 _ _) rfl ?_ ?_; rotate_left 1)
              · rw [hii]
                repeat first | refine lwp_seq fun K hK => ?_ | (with_reducible refine gA ?_; apply_assumption -exfalso -symm) | refine Stp.h ?_ | refine gF rfl ?_ | refine gG rfl ?_
                refine lwp_condS hC rfl sd ?_ ?_ <;> intro hb
                · have hq2 : q < lnJ l i := by omega
                  rw [firstR_drop _ _ _ (show q < (l.getD i jbD).af.length from hq2)] at hg
                  have HG := Lib.hid hg
                  have hfi := fnd_is (l := l) (s := afJ l i q)
                  have HFI := Lib.hid hfi
                  clear hg hb hfi
                  repeat first | refine lwp_seq fun K hK => ?_ | (with_reducible refine gA ?_; apply_assumption -exfalso -symm) | refine Stp.h ?_ | refine gF rfl ?_ | refine gG rfl ?_
                  (refine lwp_region hC ⟨[], [], [(9, Fnd_i l (afJ l i q) [(0, some 0), (1, some 1)])]⟩ (told1 _ (by rw [hP]; exact (calls_cons (Fnd_s _ _ _ hl) calls_nil))) rfl ?_ ?_; rotate_left 1)
                  · repeat first | refine lwp_seq fun K hK => ?_ | (with_reducible refine gA ?_; apply_assumption -exfalso -symm) | refine Stp.h ?_ | refine gF rfl ?_ | refine gG rfl ?_ | refine gM hC rfl sd ?_
                    refine lwp_condS hC rfl sd ?_ ?_ <;> intro hb
                    · have hno : memS (nmJ l) (afJ l i q) = false := by
                        cases e : memS (nmJ l) (afJ l i q) with
                        | false => rfl
                        | true => have := (HFI.out.1 e).2.1; omega
                      have e1 : afAt (nmJ l) (l.getD i jbD).af q = 10 := by
                        unfold afAt
                        rw [show memS (nmJ l) ((l.getD i jbD).af.getD q ByteArray.empty) = false from hno]
                        rfl
                      have e3 : jobsE l = 10 := by
                        have h1 := HG.out
                        rw [e1, if_neg (by decide)] at h1
                        have h2 := HF.out
                        rw [h1, if_neg (by decide)] at h2
                        rw [E2.out, h2]; rfl
                      clear hb hno e1
                      repeat first | refine lwp_seq fun K hK => ?_ | (with_reducible refine gA ?_; apply_assumption -exfalso -symm) | refine Stp.h ?_ | refine gF rfl ?_ | refine gG rfl ?_ | refine gM hC rfl sd ?_
                      (refine end_intro (by first | exact .inr rfl | exact .inl rfl) [] rfl ?_)
                      rw [e3]
                      exact ⟨rfl, trivial⟩
                    · have hyes : memS (nmJ l) (afJ l i q) = true := by
                        cases e : memS (nmJ l) (afJ l i q) with
                        | true => rfl
                        | false => have := HFI.out.2 e; omega
                      have e1 : afAt (nmJ l) (l.getD i jbD).af q = whenS (memS ((l.getD i jbD).af.take q) (afJ l i q)) 9 := by
                        unfold afAt
                        rw [show memS (nmJ l) ((l.getD i jbD).af.getD q ByteArray.empty) = true from hyes]
                        show firstS [0, _] = _
                        simp only [firstS, if_true]
                        split <;> simp_all
                      have EA := Lib.hid e1
                      clear hb hyes e1
                      repeat first | refine lwp_seq fun K hK => ?_ | (with_reducible refine gA ?_; apply_assumption -exfalso -symm) | refine Stp.h ?_ | refine gF rfl ?_ | refine gG rfl ?_ | refine gM hC rfl sd ?_
                      refine lwp_loop (fun p : Nat => ⟨[(8, i64 p), (7, i64 q), (6, i64 i), (0, .sl 0 l.length)], [(0, jbCh l 1), (1, fmCh l)], 2⟩) (fun p => p ≤ q ∧ ∀ x : Nat, x < p → afJ l i x ≠ afJ l i q) (fun p => q - p) 0 ⟨?_, sub_intro hm [(0, some 0), (1, some 1)] rfl ?_⟩ ?_
                      · exact ⟨Nat.zero_le _, fun x hx => absurd hx (Nat.not_lt_zero _)⟩
                      · exact sd
                      · rintro p ⟨hp, hh⟩
                        have hpp : ((p : Int)).toNat = p := Int.toNat_natCast p
                        have HH := Lib.hid hh
                        clear hh
                        have htl : ((l.getD i jbD).af.take q).length = q := by rw [List.length_take]; exact Nat.min_eq_left hq
                        have hta : ∀ x, x < q → ((l.getD i jbD).af.take q).getD x ByteArray.empty = afJ l i x := fun x hx => by
                          rw [List.getD_eq_getElem?_getD, List.getElem?_take_of_lt hx, ← List.getD_eq_getElem?_getD]
                        have HTA := Lib.hid hta
                        clear hta
                        repeat first | refine lwp_seq fun K hK => ?_ | (with_reducible refine gA ?_; apply_assumption -exfalso -symm) | refine Stp.h ?_ | refine gF rfl ?_ | refine gG rfl ?_ | refine gM hC rfl sd ?_
                        refine lwp_condS hC rfl sd ?_ ?_ <;> intro hb
                        · have hp2 : p < q := by omega
                          clear hb
                          repeat first | refine lwp_seq fun K hK => ?_ | (with_reducible refine gA ?_; apply_assumption -exfalso -symm) | refine Stp.h ?_ | refine gF rfl ?_ | refine gG rfl ?_
                          (refine lwp_drawn hC (by rw [hP]; exact mixed) ⟨[], [], []⟩ (told0 _ _) [0, 0, 3, 7, 15, 0, 63, 127, 0, 0, 768, 1792, 3840, 0, 16128, 32512, 65535] 16 rfl ?_ ?_; rotate_left 1)
                          · rw [hii, hpp, hqq]
                            repeat first | refine lwp_seq fun K hK => ?_ | (with_reducible refine gA ?_; apply_assumption -exfalso -symm) | refine Stp.h ?_ | refine gF rfl ?_ | refine gG rfl ?_
                            refine lwp_condS hC rfl sd ?_ ?_ <;> intro hb
                            · have hm1 : memS ((l.getD i jbD).af.take q) (afJ l i q) = true := memS_hit (k := p) (by omega) (by rw [HTA.out p hp2]; exact hb)
                              have e3 : jobsE l = 9 := by
                                have h0 := EA.out
                                rw [hm1] at h0
                                have h0 : afAt (nmJ l) (l.getD i jbD).af q = 9 := h0
                                have h1 := HG.out
                                rw [h0, if_neg (by decide)] at h1
                                have h2 := HF.out
                                rw [h1, if_neg (by decide)] at h2
                                rw [E2.out, h2]; rfl
                              clear hb hm1
                              repeat first | refine lwp_seq fun K hK => ?_ | (with_reducible refine gA ?_; apply_assumption -exfalso -symm) | refine Stp.h ?_ | refine gF rfl ?_ | refine gG rfl ?_ | refine gM hC rfl sd ?_
                              (refine end_intro (by first | exact .inr rfl | exact .inl rfl) [] rfl ?_)
                              rw [e3]
                              exact ⟨rfl, trivial⟩
                            · have hne : afJ l i p ≠ afJ l i q := hb
                              have HN := Lib.hid hne
                              clear hb hne
                              repeat first | refine lwp_seq fun K hK => ?_ | (with_reducible refine gA ?_; apply_assumption -exfalso -symm) | refine Stp.h ?_ | refine gF rfl ?_ | refine gG rfl ?_ | refine gM hC rfl sd ?_
                              refine gA ⟨p + 1, ?_, ?_, sub_intro hm [(0, some 0), (1, some 1)] rfl ?_⟩
                              · refine ⟨hp2, fun x hx => ?_⟩
                                by_cases e : x = p
                                · subst e; exact HN.out
                                · exact HH.out x (by omega)
                              · omega
                              · exact sd
                          · rw [hii, hpp, hqq]
                            exact sd
                        · have hpe : p = q := by omega
                          subst hpe
                          have hm1 : memS ((l.getD i jbD).af.take p) (afJ l i p) = false := memS_no fun x hx => by
                            rw [htl] at hx
                            rw [HTA.out x hx]
                            exact HH.out x hx
                          have h0 := EA.out
                          rw [hm1] at h0
                          have h1 := HG.out
                          rw [h0, if_pos (show whenS false 9 = 0 from rfl)] at h1
                          have HG2 := Lib.hid h1
                          clear hb hm1 h0 h1 HG EA htl
                          repeat first | refine lwp_seq fun K hK => ?_ | (with_reducible refine gA ?_; apply_assumption -exfalso -symm) | refine Stp.h ?_ | refine gF rfl ?_ | refine gG rfl ?_ | refine gM hC rfl sd ?_
                          refine gA ⟨p + 1, ?_, ?_, sub_intro hm [(0, some 0), (1, some 1)] rfl ?_⟩
                          · exact ⟨hq2, HG2.out⟩
                          · omega
                          · exact sd
                  · rw [hii, hqq]
                    exact sd
                · have hqe0 : q = lnJ l i := by omega
                  have hqe : q = (l.getD i jbD).af.length := hqe0
                  rw [hqe, firstR_all] at hg
                  have h2 := HF.out
                  rw [if_pos hg] at h2
                  have H2 := Lib.hid h2
                  clear hb hg h2 HF hqe
                  repeat first | refine lwp_seq fun K hK => ?_ | (with_reducible refine gA ?_; apply_assumption -exfalso -symm) | refine Stp.h ?_ | refine gF rfl ?_ | refine gG rfl ?_ | refine gM hC rfl sd ?_
                  refine gA ⟨i + 1, ?_, ?_, sub_intro hm [(0, some 0), (1, some 1)] rfl ?_⟩
                  · exact ⟨hi2, H2.out⟩
                  · omega
                  · exact sd
              · rw [hii]
                exact sd
          · obtain rfl : i = l.length := by omega
            rw [firstR_all] at hf
            have e := E2.out
            rw [hf] at e
            have e : jobsE l = whenS (cycB l) 33 := by
              rw [e]; simp only [firstS, if_true]; split <;> simp_all
            have hall := chs_known hf
            have E3 := Lib.hid e
            have HALL := Lib.hid hall
            have hcy := cycB_R l
            have HCY := Lib.hid hcy
            clear hb hf e E2 hall hcy
            have hnl := nmJ_len l
            obtain ⟨ns, hns⟩ : ∃ ns, nmJ l = ns := ⟨_, rfl⟩
            have HNS := Lib.hid hns
            rw [hns] at HCY HALL hnl
            clear hns
            repeat first | refine lwp_seq fun K hK => ?_ | (with_reducible refine gA ?_; apply_assumption -exfalso -symm) | refine Stp.h ?_ | refine gF rfl ?_ | refine gG rfl ?_ | refine gM hC rfl sd ?_
            refine lwp_loop (fun r : Nat => ⟨[(10, i64 r), (9, .sl 2 l.length), (0, .sl 0 l.length)], [(2, .row 4 l.length 1 (.bools (rdR ns l r))), (0, jbCh l 1), (1, fmCh l)], 3⟩) (fun r => r ≤ l.length) (fun r => l.length - r) 0 ⟨?_, sub_intro hm [(0, some 0), (1, some 1), (2, some 2)] rfl ?_⟩ ?_
            · exact Nat.zero_le _
            · have e : rdR ns l 0 = List.replicate l.length false := rfl
              exact sd
            · rintro r hr
              repeat first | refine lwp_seq fun K hK => ?_ | (with_reducible refine gA ?_; apply_assumption -exfalso -symm) | refine Stp.h ?_ | refine gF rfl ?_ | refine gG rfl ?_ | refine gM hC rfl sd ?_
              refine lwp_condS hC rfl sd ?_ ?_ <;> intro hb
              · have hr2 : r < l.length := by omega
                clear hb
                have hrl := rdR_len ns l r
                obtain ⟨D, hDe⟩ : ∃ D, rdR ns l r = D := ⟨_, rfl⟩
                have hnx : rdR ns l (r + 1) = stR ns l D l.length := by rw [← hDe]; rfl
                rw [hDe] at hrl
                rw [hDe]
                have HNX := Lib.hid hnx
                clear hnx hDe
                repeat first | refine lwp_seq fun K hK => ?_ | (with_reducible refine gA ?_; apply_assumption -exfalso -symm) | refine Stp.h ?_ | refine gF rfl ?_ | refine gG rfl ?_ | refine gM hC rfl sd ?_
                refine lwp_loop (fun i : Nat => ⟨[(11, i64 i), (10, i64 r), (9, .sl 2 l.length), (0, .sl 0 l.length)], [(2, .row 4 l.length 1 (.bools (stR ns l D i))), (0, jbCh l 1), (1, fmCh l)], 3⟩) (fun i => i ≤ l.length) (fun i => l.length - i) 0 ⟨?_, sub_intro hm [(0, some 0), (1, some 1), (2, some 2)] rfl ?_⟩ ?_
                · exact Nat.zero_le _
                · have e : stR ns l D 0 = D := rfl
                  exact sd
                · rintro i hi
                  have hii : ((i : Int)).toNat = i := Int.toNat_natCast i
                  have hli := hln i
                  have hsl : (stR ns l D i).length = l.length := by rw [stR_len]; exact hrl
                  repeat first | refine lwp_seq fun K hK => ?_ | (with_reducible refine gA ?_; apply_assumption -exfalso -symm) | refine Stp.h ?_ | refine gF rfl ?_ | refine gG rfl ?_ | refine gM hC rfl sd ?_
                  refine lwp_condS hC rfl sd ?_ ?_ <;> intro hb
                  · have hi2 : i < l.length := by omega
                    clear hb
                    have e : stR ns l D (i + 1) = if frB ns (stR ns l D i) (l.getD i jbD).af (l.getD i jbD).af.length = true then (stR ns l D i).set i true else stR ns l D i := rfl
                    obtain ⟨E, hEe⟩ : ∃ E, stR ns l D i = E := ⟨_, rfl⟩
                    rw [hEe] at e hsl
                    rw [hEe]
                    have HE := Lib.hid e
                    clear e hEe
                    repeat first | refine lwp_seq fun K hK => ?_ | (with_reducible refine gA ?_; apply_assumption -exfalso -symm) | refine Stp.h ?_ | refine gF rfl ?_ | refine gG rfl ?_ | refine gM hC rfl sd ?_
                    refine lwp_loop (fun q : Nat => ⟨[(13, i64 q), (12, bl (frB ns E (l.getD i jbD).af q)), (11, i64 i), (10, i64 r), (9, .sl 2 l.length), (0, .sl 0 l.length)], [(2, .row 4 l.length 1 (.bools E)), (0, jbCh l 1), (1, fmCh l)], 3⟩) (fun q => q ≤ lnJ l i) (fun q => lnJ l i - q) 0 ⟨?_, sub_intro hm [(0, some 0), (1, some 1), (2, some 2)] rfl ?_⟩ ?_
                    · exact Nat.zero_le _
                    · have e : frB ns E (l.getD i jbD).af 0 = true := rfl
                      rw [e]
                      exact sd
                    · rintro q hq
                      have hqq : ((q : Int)).toNat = q := Int.toNat_natCast q
                      repeat first | refine lwp_seq fun K hK => ?_ | (with_reducible refine gA ?_; apply_assumption -exfalso -symm) | refine Stp.h ?_ | refine gF rfl ?_ | refine gG rfl ?_
                      (refine lwp_region hC ⟨[], [], []⟩ (told0 _ _) rfl ?_ ?_; rotate_left 1)
                      · rw [hii]
                        repeat first | refine lwp_seq fun K hK => ?_ | (with_reducible refine gA ?_; apply_assumption -exfalso -symm) | refine Stp.h ?_ | refine gF rfl ?_ | refine gG rfl ?_
                        refine lwp_condS hC rfl sd ?_ ?_ <;> intro hb
                        · have hq2 : q < lnJ l i := by omega
                          have hst := frB_step (ns := ns) (D := E) (af := (l.getD i jbD).af) (q := q) hq2
                          have hkn := HALL.out i q hi2 hq2
                          have hfi := (fnd_is (l := l) (s := afJ l i q)).1
                          rw [HNS.out] at hfi
                          obtain ⟨hf1, hf2, hf3⟩ := hfi hkn
                          have hdv : E.getD (fnd l (afJ l i q)).toNat false = dnV ns E (afJ l i q) := by rw [hf1]; rfl
                          have HST := Lib.hid hst
                          have HDV := Lib.hid hdv
                          clear hb hst hkn hfi hdv hf1
                          obtain ⟨fr, hfr⟩ : ∃ fr, frB ns E (l.getD i jbD).af q = fr := ⟨_, rfl⟩
                          rw [hfr] at HST
                          rw [hfr]
                          clear hfr
                          cases fr with
                          | true =>
                            repeat first | refine lwp_seq fun K hK => ?_ | (with_reducible refine gA ?_; apply_assumption -exfalso -symm) | refine Stp.h ?_ | refine gF rfl ?_ | refine gG rfl ?_
                            (refine lwp_region hC ⟨[(1, { b := some true })], [], [(12, Fnd_i l (afJ l i q) [(0, some 0), (1, some 1)])]⟩ (told1 _ (by rw [hP]; exact (calls_cons (Fnd_s _ _ _ hl) calls_nil))) rfl ?_ ?_; rotate_left 1)
                            · rw [HDV.out]
                              repeat first | refine lwp_seq fun K hK => ?_ | (with_reducible refine gA ?_; apply_assumption -exfalso -symm) | refine Stp.h ?_ | refine gF rfl ?_ | refine gG rfl ?_ | refine gM hC rfl sd ?_
                              refine gA ⟨q + 1, ?_, ?_, sub_intro hm [(0, some 0), (1, some 1), (2, some 2)] rfl ?_⟩
                              · omega
                              · omega
                              · rw [HST.out]
                                exact sd
                            · rw [hii, hqq]
                              exact sd
                          | false =>
                            repeat first | refine lwp_seq fun K hK => ?_ | (with_reducible refine gA ?_; apply_assumption -exfalso -symm) | refine Stp.h ?_ | refine gF rfl ?_ | refine gG rfl ?_
                            (refine lwp_region hC ⟨[(1, { b := some false }), (2, { g := some false }), (3, { g := some false }), (4, { g := some false }), (5, { g := some false }), (6, { g := some false }), (7, { g := some false }), (8, { g := some false }), (9, { g := some false }), (10, { g := some false }), (11, { g := some false }), (12, { g := some false }), (13, { g := some false }), (14, { g := some false })], [], []⟩ (told0 _ _) rfl ?_ ?_; rotate_left 1)
                            · repeat first | refine lwp_seq fun K hK => ?_ | (with_reducible refine gA ?_; apply_assumption -exfalso -symm) | refine Stp.h ?_ | refine gF rfl ?_ | refine gG rfl ?_ | refine gM hC rfl sd ?_
                              refine gA ⟨q + 1, ?_, ?_, sub_intro hm [(0, some 0), (1, some 1), (2, some 2)] rfl ?_⟩
                              · omega
                              · omega
                              · rw [HST.out]
                                exact sd
                            · exact sd
                        · have hqe0 : q = lnJ l i := by omega
                          subst hqe0
                          have hee := HE.out
                          obtain ⟨fr, hfr⟩ : ∃ fr, frB ns E (l.getD i jbD).af (lnJ l i) = fr := ⟨_, rfl⟩
                          rw [show frB ns E (l.getD i jbD).af (l.getD i jbD).af.length = fr from hfr] at hee
                          rw [hfr]
                          clear hfr hb HE
                          repeat first | refine lwp_seq fun K hK => ?_ | (with_reducible refine gA ?_; apply_assumption -exfalso -symm) | refine Stp.h ?_ | refine gF rfl ?_ | refine gG rfl ?_ | refine gM hC rfl sd ?_
                          refine lwp_condS hC rfl sd ?_ ?_ <;> intro hb
                          · have hfr : fr = true := by simpa using hb
                            rw [hfr, if_pos rfl] at hee
                            have HEE := Lib.hid hee
                            clear hb hfr hee
                            repeat first | refine lwp_seq fun K hK => ?_ | (with_reducible refine gA ?_; apply_assumption -exfalso -symm) | refine Stp.h ?_ | refine gF rfl ?_ | refine gG rfl ?_
                            (refine lwp_region hC ⟨[], [], []⟩ (told0 _ _) rfl ?_ ?_; rotate_left 1)
                            · rw [hii, ← HEE.out]
                              repeat first | refine lwp_seq fun K hK => ?_ | (with_reducible refine gA ?_; apply_assumption -exfalso -symm) | refine Stp.h ?_ | refine gF rfl ?_ | refine gG rfl ?_ | refine gM hC rfl sd ?_
                              refine gA ⟨i + 1, ?_, ?_, sub_intro hm [(0, some 0), (1, some 1), (2, some 2)] rfl ?_⟩
                              · omega
                              · omega
                              · exact sd
                            · rw [hii]
                              exact sd
                          · have hfr : fr = false := by simpa using hb
                            rw [hfr, if_neg (by decide)] at hee
                            have HEE := Lib.hid hee
                            clear hb hfr hee
                            rw [← HEE.out]
                            repeat first | refine lwp_seq fun K hK => ?_ | (with_reducible refine gA ?_; apply_assumption -exfalso -symm) | refine Stp.h ?_ | refine gF rfl ?_ | refine gG rfl ?_ | refine gM hC rfl sd ?_
                            refine gA ⟨i + 1, ?_, ?_, sub_intro hm [(0, some 0), (1, some 1), (2, some 2)] rfl ?_⟩
                            · omega
                            · omega
                            · exact sd
                      · rw [hii]
                        exact sd
                  · obtain rfl : i = l.length := by omega
                    clear hb
                    rw [← HNX.out]
                    repeat first | refine lwp_seq fun K hK => ?_ | (with_reducible refine gA ?_; apply_assumption -exfalso -symm) | refine Stp.h ?_ | refine gF rfl ?_ | refine gG rfl ?_ | refine gM hC rfl sd ?_
                    refine gA ⟨r + 1, ?_, ?_, sub_intro hm [(0, some 0), (1, some 1), (2, some 2)] rfl ?_⟩
                    · omega
                    · omega
                    · exact sd
              · obtain rfl : r = l.length := by omega
                clear hb
                have hrl := rdR_len ns l l.length
                obtain ⟨D, hDe⟩ : ∃ D, rdR ns l l.length = D := ⟨_, rfl⟩
                rw [hDe] at hrl HCY
                rw [hDe]
                clear hDe
                repeat first | refine lwp_seq fun K hK => ?_ | (with_reducible refine gA ?_; apply_assumption -exfalso -symm) | refine Stp.h ?_ | refine gF rfl ?_ | refine gG rfl ?_ | refine gM hC rfl sd ?_
                refine lwp_loop (fun i : Nat => ⟨[(14, i64 i), (9, .sl 2 l.length), (0, .sl 0 l.length)], [(2, .row 4 l.length 1 (.bools D)), (0, jbCh l 1), (1, fmCh l)], 3⟩) (fun i => i ≤ l.length ∧ ∀ x : Nat, x < i → eqO false (D.getD x false) = false) (fun i => l.length - i) 0 ⟨?_, sub_intro hm [(0, some 0), (1, some 1), (2, some 2)] rfl ?_⟩ ?_
                · exact ⟨Nat.zero_le _, fun x hx => absurd hx (Nat.not_lt_zero _)⟩
                · exact sd
                · rintro i ⟨hi, hf⟩
                  have hii : ((i : Int)).toNat = i := Int.toNat_natCast i
                  have HF := Lib.hid hf
                  clear hf
                  repeat first | refine lwp_seq fun K hK => ?_ | (with_reducible refine gA ?_; apply_assumption -exfalso -symm) | refine Stp.h ?_ | refine gF rfl ?_ | refine gG rfl ?_ | refine gM hC rfl sd ?_
                  refine lwp_condS hC rfl sd ?_ ?_ <;> intro hb
                  · have hi2 : i < l.length := by omega
                    clear hb
                    repeat first | refine lwp_seq fun K hK => ?_ | (with_reducible refine gA ?_; apply_assumption -exfalso -symm) | refine Stp.h ?_ | refine gF rfl ?_ | refine gG rfl ?_
                    (refine lwp_region hC ⟨[], [], []⟩ (told0 _ _) rfl ?_ ?_; rotate_left 1)
                    · rw [hii]
                      repeat first | refine lwp_seq fun K hK => ?_ | (with_reducible refine gA ?_; apply_assumption -exfalso -symm) | refine Stp.h ?_ | refine gF rfl ?_ | refine gG rfl ?_
                      refine lwp_condS hC rfl sd ?_ ?_ <;> intro hb
                      · have hfl : D.getD i false = false := by simpa using hb
                        have hcy : cycB l = true := by
                          rw [HCY.out, List.any_eq_true]
                          refine ⟨D[i], List.getElem_mem (by omega), ?_⟩
                          rw [List.getD_eq_getElem?_getD, List.getElem?_eq_getElem (by omega)] at hfl
                          exact decide_eq_true hfl.symm
                        have EE := Lib.hid (show jobsE l = 33 by have h := E3.out; rw [hcy] at h; exact h)
                        clear hb hfl hcy
                        repeat first | refine lwp_seq fun K hK => ?_ | (with_reducible refine gA ?_; apply_assumption -exfalso -symm) | refine Stp.h ?_ | refine gF rfl ?_ | refine gG rfl ?_ | refine gM hC rfl sd ?_
                        (refine end_intro (by first | exact .inr rfl | exact .inl rfl) [] rfl ?_)
                        rw [EE.out]
                        exact ⟨rfl, trivial⟩
                      · have htr : eqO false (D.getD i false) = false := by
                          have hb : D.getD i false = true := by simpa using hb
                          rw [hb]; rfl
                        have HT := Lib.hid htr
                        clear hb htr
                        repeat first | refine lwp_seq fun K hK => ?_ | (with_reducible refine gA ?_; apply_assumption -exfalso -symm) | refine Stp.h ?_ | refine gF rfl ?_ | refine gG rfl ?_ | refine gM hC rfl sd ?_
                        refine gA ⟨i + 1, ?_, ?_, sub_intro hm [(0, some 0), (1, some 1), (2, some 2)] rfl ?_⟩
                        · refine ⟨hi2, fun x hx => ?_⟩
                          by_cases e : x = i
                          · subst e; exact HT.out
                          · exact HF.out x (by omega)
                        · omega
                        · exact sd
                    · rw [hii]
                      exact sd
                  · obtain rfl : i = l.length := by omega
                    have hcy : cycB l = false := by
                      rw [HCY.out, List.any_eq_false]
                      intro x hx
                      obtain ⟨k, hk, rfl⟩ := List.getElem_of_mem hx
                      have := HF.out k (by omega)
                      rw [List.getD_eq_getElem?_getD, List.getElem?_eq_getElem hk] at this
                      have this : eqO false D[k] = false := this
                      rw [this]; decide
                    have EE := Lib.hid (show jobsE l = 0 by have h := E3.out; rw [hcy] at h; exact h)
                    clear hb hcy
                    repeat first | refine lwp_seq fun K hK => ?_ | (with_reducible refine gA ?_; apply_assumption -exfalso -symm) | refine Stp.h ?_ | refine gF rfl ?_ | refine gG rfl ?_ | refine gM hC rfl sd ?_
                    (refine end_intro (by first | exact .inr rfl | exact .inl rfl) [] rfl ?_)
                    rw [EE.out]
                    exact ⟨rfl, trivial⟩

end Go.Proofs.YtlhgddgoblliaaaGreatDoor
