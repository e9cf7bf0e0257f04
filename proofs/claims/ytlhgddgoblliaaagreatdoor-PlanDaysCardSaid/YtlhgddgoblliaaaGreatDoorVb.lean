/- Chapter 9: jobs: what a list of jobs is, its lists of names; short lists; copies; names found. -/
import Derived.Test.YtlhgddgoblliaaaGreatDoorOe
import Derived.Test.YtlhgddgoblliaaaGreatDoorVa
set_option linter.unusedVariables false
set_option linter.unusedSimpArgs false
namespace Go.Proofs.YtlhgddgoblliaaaGreatDoor
open Go.RowKit Go.Sym

structure Jb where
  name : ByteArray
  kind : ByteArray
  af : List ByteArray
def jbD : Jb := ⟨ByteArray.empty, ByteArray.empty, []⟩
def strC (l : List ByteArray) : Cont := .gen l.length 1 fun k => [.string (l.getD k ByteArray.empty)]
def hdJ (l : List Jb) (k : Nat) : List Value := [.string (l.getD k jbD).name, .string (l.getD k jbD).kind]
def lnJ (l : List Jb) (k : Nat) : Nat := (l.getD k jbD).af.length
def fmJ (l : List Jb) (k : Nat) : Cont := strC (l.getD k jbD).af
abbrev afJ (l : List Jb) (k q : Nat) : ByteArray := (l.getD k jbD).af.getD q ByteArray.empty
abbrev Sb (s : ByteArray) : AV := .lit (.string s)
abbrev jbA (j : Nat) (l : List Jb) (k : Nat) : AV := .agg [Sb (l.getD k jbD).name, Sb (l.getD k jbD).kind, .tb j (.row k (lnJ l k))]
abbrev jbCh (l : List Jb) (j : Nat) : Chunk := .ro l.length 3 (.jbs j l.length 3 (hdJ l) (lnJ l))
abbrev fmCh (l : List Jb) : Chunk := .fam false 9 1 l.length (lnJ l) (fmJ l)
def jobIn (l : List Jb) : List (Nat × Chunk) := [(0, jbCh l 1), (1, fmCh l)]

theorem strC_nil {l : List ByteArray} (h : l.length = 0) : (strC l).cells = [] := by
  have : l = [] := List.eq_nil_of_length_eq_zero h
  subst this
  rfl
/-! Short lists. -/
def okJ (j : Jb) : Bool := decide ((j.name.size : Int) ≤ 40) && decide ((j.kind.size : Int) ≤ 40) && decide ((j.af.length : Int) ≤ 9) && j.af.all fun s => decide ((s.size : Int) ≤ 40)
def shJ (l : List Jb) : Bool := l.all okJ && (decide ((l.length : Int) ≤ 4) || decide ((l.length : Int) = 9))
theorem all_getD {α : Type} {p : α → Bool} {l : List α} {d : α} (h : ∀ i, i < l.length → p (l.getD i d) = true) : l.all p = true := by
  rw [List.all_eq_true]
  intro x hx
  obtain ⟨i, hi, rfl⟩ := List.getElem_of_mem hx
  have := h i hi
  rwa [List.getD_eq_getElem?_getD, List.getElem?_eq_getElem hi] at this
theorem all_not {α : Type} {p : α → Bool} {l : List α} {d : α} {i : Nat} (hi : i < l.length) (h : p (l.getD i d) = false) : l.all p = false := by
  rw [List.getD_eq_getElem?_getD, List.getElem?_eq_getElem hi] at h
  cases e : l.all p with
  | false => rfl
  | true =>
    rw [List.all_eq_true] at e
    have h : p l[i] = false := h
    rw [e _ (List.getElem_mem hi)] at h; cases h
theorem or3T {p q r : Prop} [Decidable p] [Decidable q] [Decidable r] (h : (bif bif decide p then true else decide q then true else decide r) = true) : p ∨ q ∨ r := by
  by_cases hp : p <;> by_cases hq : q <;> by_cases hr : r <;> simp_all
theorem or3F {p q r : Prop} [Decidable p] [Decidable q] [Decidable r] (h : (bif bif decide p then true else decide q then true else decide r) = false) : ¬ p ∧ ¬ q ∧ ¬ r := by
  by_cases hp : p <;> by_cases hq : q <;> by_cases hr : r <;> simp_all
theorem okJ_of {j : Jb} (h1 : (j.name.size : Int) ≤ 40) (h2 : (j.kind.size : Int) ≤ 40) (h3 : (j.af.length : Int) ≤ 9) (h4 : ∀ i, i < j.af.length → decide (((j.af.getD i ByteArray.empty).size : Int) ≤ 40) = true) : okJ j = true := by
  unfold okJ
  rw [decide_eq_true h1, decide_eq_true h2, decide_eq_true h3, all_getD (d := ByteArray.empty) h4]
  rfl
theorem okJ_no {j : Jb} (h : (j.name.size : Int) > 40 ∨ (j.kind.size : Int) > 40 ∨ (j.af.length : Int) > 9) : okJ j = false := by
  unfold okJ
  rcases h with h | h | h
  · rw [decide_eq_false (show ¬ (j.name.size : Int) ≤ 40 by omega)]; rfl
  · rw [decide_eq_false (show ¬ (j.kind.size : Int) ≤ 40 by omega)]; simp
  · rw [decide_eq_false (show ¬ (j.af.length : Int) ≤ 9 by omega)]; simp
def ShJ_i (l : List Jb) (σ : Ren) : Inst := { f := 7, hin := jobIn l, args := [.sl 0 l.length], hout := [], ret := bl (shJ l), σ := σ }
set_option maxRecDepth 20000 in
theorem ShJ_s (l : List Jb) (σ : Ren) (hl : l.length ≤ 9223372036854775807) (hln : ∀ k, lnJ l k ≤ 9223372036854775807) : (ShJ_i l σ).ok Tryz.prog := by
  unfold ShJ_i jobIn Inst.ok; dsimp only; refine spec_of_body (tys := tys) 2 Tryz.func7 (by kernel_rfl) rfl tys_ok rfl (Nat.le_of_ble_eq_true rfl) (fun _ _ h => (by cases h)) fun F hP hm hC hrd => ?_; conv => whnf
  repeat first | refine lwp_seq fun K hK => ?_ | (with_reducible refine gA ?_; apply_assumption -exfalso -symm) | refine Stp.h ?_ | refine gF rfl ?_ | refine gG rfl ?_ | refine gM hC rfl sd ?_
  refine lwp_loop (fun k : Nat => ⟨[(3, i64 k), (0, .sl 0 l.length)], [(0, jbCh l 1), (1, fmCh l)], 2⟩) (fun k => k ≤ l.length ∧ ∀ i : Nat, i < k → okJ (l.getD i jbD) = true) (fun k => l.length - k) 0 ⟨?_, sub_intro hm [(0, some 0), (1, some 1)] rfl ?_⟩ ?_
  · exact ⟨Nat.zero_le _, fun i hi => absurd hi (Nat.not_lt_zero _)⟩
  · exact sd
  · rintro k ⟨hk, hf⟩
    have hkk : ((k : Int)).toNat = k := Int.toNat_natCast k
    have HF := Lib.hid hf
    have HLN := hln k
    clear hf
    repeat first | refine lwp_seq fun K hK => ?_ | (with_reducible refine gA ?_; apply_assumption -exfalso -symm) | refine Stp.h ?_ | refine gF rfl ?_ | refine gG rfl ?_ | refine gM hC rfl sd ?_
    refine lwp_condS hC rfl sd ?_ ?_ <;> intro hb
    · have hk2 : k < l.length := by omega
      clear hb
      repeat first | refine lwp_seq fun K hK => ?_ | (with_reducible refine gA ?_; apply_assumption -exfalso -symm) | refine Stp.h ?_ | refine gF rfl ?_ | refine gG rfl ?_
      (refine lwp_region hC ⟨[], [], []⟩ (told0 _ _) rfl ?_ ?_; rotate_left 1)
      · rw [hkk]
        repeat first | refine lwp_seq fun K hK => ?_ | (with_reducible refine gA ?_; apply_assumption -exfalso -symm) | refine Stp.h ?_ | refine gF rfl ?_ | refine gG rfl ?_
        refine lwp_condS hC rfl sd ?_ ?_ <;> intro hb
        · have hno : okJ (l.getD k jbD) = false := okJ_no (or3T hb)
          have e : shJ l = false := by unfold shJ; rw [all_not hk2 hno]; rfl
          clear hb hno
          repeat first | refine lwp_seq fun K hK => ?_ | (with_reducible refine gA ?_; apply_assumption -exfalso -symm) | refine Stp.h ?_ | refine gF rfl ?_ | refine gG rfl ?_ | refine gM hC rfl sd ?_
          (refine end_intro (by first | exact .inr rfl | exact .inl rfl) [] rfl ?_)
          rw [e]
          exact ⟨rfl, trivial⟩
        · obtain ⟨q1, q2, q3⟩ := or3F hb
          have q1 : ((l.getD k jbD).name.size : Int) ≤ 40 := Int.not_lt.1 q1
          have q2 : ((l.getD k jbD).kind.size : Int) ≤ 40 := Int.not_lt.1 q2
          have q3 : ((l.getD k jbD).af.length : Int) ≤ 9 := Int.not_lt.1 q3
          have Q1 := Lib.hid q1
          have Q2 := Lib.hid q2
          have Q3 := Lib.hid q3
          clear hb q1 q2 q3
          repeat first | refine lwp_seq fun K hK => ?_ | (with_reducible refine gA ?_; apply_assumption -exfalso -symm) | refine Stp.h ?_ | refine gF rfl ?_ | refine gG rfl ?_ | refine gM hC rfl sd ?_
          refine lwp_loop (fun q : Nat => ⟨[(4, i64 q), (3, i64 k), (0, .sl 0 l.length)], [(0, jbCh l 1), (1, fmCh l)], 2⟩) (fun q => q ≤ lnJ l k ∧ ∀ i : Nat, i < q → decide (((afJ l k i).size : Int) ≤ 40) = true) (fun q => lnJ l k - q) 0 ⟨?_, sub_intro hm [(0, some 0), (1, some 1)] rfl ?_⟩ ?_
          · exact ⟨Nat.zero_le _, fun i hi => absurd hi (Nat.not_lt_zero _)⟩
          · exact sd
          · rintro q ⟨hq, hg⟩
            have hqq : ((q : Int)).toNat = q := Int.toNat_natCast q
            have HG := Lib.hid hg
            clear hg
            repeat first | refine lwp_seq fun K hK => ?_ | (with_reducible refine gA ?_; apply_assumption -exfalso -symm) | refine Stp.h ?_ | refine gF rfl ?_ | refine gG rfl ?_
            (refine lwp_region hC ⟨[], [], []⟩ (told0 _ _) rfl ?_ ?_; rotate_left 1)
            · rw [hkk]
              repeat first | refine lwp_seq fun K hK => ?_ | (with_reducible refine gA ?_; apply_assumption -exfalso -symm) | refine Stp.h ?_ | refine gF rfl ?_ | refine gG rfl ?_
              refine lwp_condS hC rfl sd ?_ ?_ <;> intro hb
              · have hq2 : q < lnJ l k := by omega
                clear hb
                repeat first | refine lwp_seq fun K hK => ?_ | (with_reducible refine gA ?_; apply_assumption -exfalso -symm) | refine Stp.h ?_ | refine gF rfl ?_ | refine gG rfl ?_
                (refine lwp_region hC ⟨[], [], []⟩ (told0 _ _) rfl ?_ ?_; rotate_left 1)
                · rw [hkk, hqq]
                  repeat first | refine lwp_seq fun K hK => ?_ | (with_reducible refine gA ?_; apply_assumption -exfalso -symm) | refine Stp.h ?_ | refine gF rfl ?_ | refine gG rfl ?_
                  refine lwp_condS hC rfl sd ?_ ?_ <;> intro hb
                  · have hno : okJ (l.getD k jbD) = false := by
                      unfold okJ
                      rw [all_not (l := (l.getD k jbD).af) (d := ByteArray.empty) hq2 (decide_eq_false (by have hb : ((afJ l k q).size : Int) > 40 := hb; omega))]
                      simp
                    have e : shJ l = false := by unfold shJ; rw [all_not hk2 hno]; rfl
                    clear hb hno
                    repeat first | refine lwp_seq fun K hK => ?_ | (with_reducible refine gA ?_; apply_assumption -exfalso -symm) | refine Stp.h ?_ | refine gF rfl ?_ | refine gG rfl ?_ | refine gM hC rfl sd ?_
                    (refine end_intro (by first | exact .inr rfl | exact .inl rfl) [] rfl ?_)
                    rw [e]
                    exact ⟨rfl, trivial⟩
                  · have hle : ((afJ l k q).size : Int) ≤ 40 := by have hb : ¬ ((afJ l k q).size : Int) > 40 := hb; omega
                    have HLE := Lib.hid hle
                    clear hb hle
                    repeat first | refine lwp_seq fun K hK => ?_ | (with_reducible refine gA ?_; apply_assumption -exfalso -symm) | refine Stp.h ?_ | refine gF rfl ?_ | refine gG rfl ?_ | refine gM hC rfl sd ?_
                    refine gA ⟨q + 1, ?_, ?_, sub_intro hm [(0, some 0), (1, some 1)] rfl ?_⟩
                    · refine ⟨hq2, fun i hi => ?_⟩
                      by_cases e : i = q
                      · subst e; exact decide_eq_true HLE.out
                      · exact HG.out i (by omega)
                    · omega
                    · exact sd
                · rw [hkk, hqq]
                  exact sd
              · have hqe : q = lnJ l k := by omega
                subst hqe
                clear hb
                repeat first | refine lwp_seq fun K hK => ?_ | (with_reducible refine gA ?_; apply_assumption -exfalso -symm) | refine Stp.h ?_ | refine gF rfl ?_ | refine gG rfl ?_ | refine gM hC rfl sd ?_
                refine gA ⟨k + 1, ?_, ?_, sub_intro hm [(0, some 0), (1, some 1)] rfl ?_⟩
                · refine ⟨by omega, fun i hi => ?_⟩
                  by_cases e : i = k
                  · subst e; exact okJ_of Q1.out Q2.out Q3.out HG.out
                  · exact HF.out i (by omega)
                · omega
                · exact sd
            · rw [hkk]
              exact sd
      · rw [hkk]
        exact sd
    · obtain rfl : k = l.length := by omega
      have ha : l.all okJ = true := all_getD HF.out
      have e : shJ l = (decide ((l.length : Int) ≤ 4) || decide ((l.length : Int) = 9)) := by unfold shJ; rw [ha]; rfl
      clear hb
      repeat first | refine lwp_seq fun K hK => ?_ | (with_reducible refine gA ?_; apply_assumption -exfalso -symm) | refine Stp.h ?_ | refine gF rfl ?_ | refine gG rfl ?_ | refine gM hC rfl sd ?_
      (refine end_intro (by first | exact .inr rfl | exact .inl rfl) [] rfl ?_)
      rw [e]
      refine ⟨?_, trivial⟩
      by_cases q1 : (l.length : Int) ≤ 4 <;> by_cases q2 : (l.length : Int) = 9 <;> simp [q1, q2]

theorem ite_same {α : Type} (f : Nat → α) (k e : Nat) : f e = if e = k then f k else f e := by
  split
  · rename_i h; rw [h]
  · rfl
/-! Copies. -/
def jobOut (l : List Jb) : List (Nat × Chunk) := [(2, .row 131 l.length 3 (.jbs 3 l.length 3 (hdJ l) (lnJ l))), (3, .fam true 9 1 l.length (lnJ l) (fmJ l))]
def Jobs_i (l : List Jb) (σ : Ren) : Inst := { f := 10, hin := jobIn l, args := [.sl 0 l.length], hout := jobOut l, ret := .sl 2 l.length, σ := σ }
set_option maxRecDepth 20000 in
set_option maxHeartbeats 4000000 in
theorem Jobs_s (l : List Jb) (σ : Ren) (hl : l.length ≤ 1000) (hln : ∀ k, lnJ l k ≤ 1000) : (Jobs_i l σ).ok Tryz.prog := by
  unfold Jobs_i jobIn jobOut Inst.ok; dsimp only; refine spec_of_body (tys := tys) 2 Tryz.func10 (by kernel_rfl) rfl tys_ok rfl (Nat.le_of_ble_eq_true rfl) (fun _ _ h => (by cases h)) fun F hP hm hC hrd => ?_; conv => whnf
  repeat first | refine lwp_seq fun K hK => ?_ | (with_reducible refine gA ?_; apply_assumption -exfalso -symm) | refine Stp.h ?_ | refine gF rfl ?_ | refine gG rfl ?_ | refine gM hC rfl sd ?_
  refine lwp_sub (fam0_sub true 9 1 (lnJ l) (fmJ l) (by decide)) ?_
  refine lwp_loop (fun k : Nat => ⟨[(8, i64 k), (7, i64 l.length), (6, .sl 0 l.length), (3, .sl 2 k)], [(2, .row 131 k 3 (.jbs 3 k 3 (hdJ l) (lnJ l))), (3, .fam true 9 1 k (lnJ l) (fmJ l)), (0, jbCh l 1), (1, fmCh l)], 4⟩) (fun k => k ≤ l.length) (fun k => l.length - k) 0 ⟨?_, sub_intro hm [(0, some 0), (1, some 1), (2, none), (3, some 2)] rfl ?_⟩ ?_
  · exact Nat.zero_le _
  · exact sd
  · rintro k hk
    have hkk : ((k : Int)).toNat = k := Int.toNat_natCast k
    have hlk := hln k
    repeat first | refine lwp_seq fun K hK => ?_ | (with_reducible refine gA ?_; apply_assumption -exfalso -symm) | refine Stp.h ?_ | refine gF rfl ?_ | refine gG rfl ?_ | refine gM hC rfl sd ?_
    refine lwp_condS hC rfl sd ?_ ?_ <;> intro hb
    · have hk2 : k < l.length := by omega
      clear hb
      repeat first | refine lwp_seq fun K hK => ?_ | (with_reducible refine gA ?_; apply_assumption -exfalso -symm) | refine Stp.h ?_ | refine gF rfl ?_ | refine gG rfl ?_ | refine gM hC rfl sd ?_
      rw [hkk]
      have hstr : ∀ q : Nat, q < lnJ l k * 1 → (([Value.string ((l.getD k jbD).af.getD (q / 1) ByteArray.empty)] : List Value).getD (q % 1) undef).oneCell' = true := fun q _ => by
        rw [Nat.mod_one]; rfl
      by_cases h0 : lnJ l k = 0
      · (refine lwp_drawn hC (by rw [hP]; exact mixed) ⟨[(5, { b := some true }), (8, { b := some false })], [], []⟩ (told0 _ _) [0, 0, 2, 0, 8, 0, 0, 64, 224, 510, 1022, 2047, 4095] 11 rfl ?_ ?_; rotate_left 1)
        · repeat first | refine lwp_seq fun K hK => ?_ | (with_reducible refine gA ?_; apply_assumption -exfalso -symm) | refine Stp.h ?_ | refine gF rfl ?_ | refine gG rfl ?_ | refine gM hC rfl sd ?_
          refine gA ⟨k + 1, ?_, ?_, Sub.trans (putJ_sub (i := 9) (j := 3) (k := 7) (m := lnJ l k) (ck := fmJ l k) (l := hdJ l k) rfl rfl rfl (.inr ⟨rfl, h0, strC_nil h0⟩) rfl rfl rfl) (sub_intro hm [(0, some 0), (1, some 1), (2, some 9), (3, some 10)] rfl ?_)⟩
          · omega
          · omega
          · simp only [AllL, All, cd_p, cp_p, cv_p, true_and, and_true, implies_true]
            exact ⟨fun e _ => ⟨ite_same _ _ _, congrArg Cont.cells (ite_same _ _ _)⟩, fun e _ => ⟨ite_same _ _ _, ite_same _ _ _⟩, by omega⟩
        · simp only [AllL, All, cd_p, cp_p, cv_p]
          exact ⟨⟨⟨trivial, trivial, by omega⟩, trivial⟩, ⟨⟨trivial, by omega, h0⟩, hstr, trivial⟩, trivial⟩
      · (refine lwp_drawn hC (by rw [hP]; exact mixed) ⟨[(5, { b := some true }), (8, { b := some true })], [], []⟩ (told0 _ _) [0, 0, 2, 0, 8, 0, 0, 64, 224, 510, 1022, 2047, 4095] 11 rfl ?_ ?_; rotate_left 1)
        · repeat first | refine lwp_seq fun K hK => ?_ | (with_reducible refine gA ?_; apply_assumption -exfalso -symm) | refine Stp.h ?_ | refine gF rfl ?_ | refine gG rfl ?_ | refine gM hC rfl sd ?_
          refine gA ⟨k + 1, ?_, ?_, Sub.trans (putJ_sub (i := 9) (j := 3) (k := 7) (m := lnJ l k) (ck := fmJ l k) (l := hdJ l k) rfl rfl rfl (.inl rfl) rfl rfl rfl) (sub_intro hm [(0, some 0), (1, some 1), (2, some 9), (3, some 10)] rfl ?_)⟩
          · omega
          · omega
          · simp only [AllL, All, cd_p, cp_p, cv_p, true_and, and_true, implies_true]
            exact ⟨fun e _ => ⟨ite_same _ _ _, congrArg Cont.cells (ite_same _ _ _)⟩, fun e _ => ⟨ite_same _ _ _, ite_same _ _ _⟩, by omega⟩
        · simp only [AllL, All, cd_p, cp_p, cv_p]
          exact ⟨⟨⟨trivial, trivial, by omega⟩, trivial⟩, ⟨⟨trivial, by omega, by omega⟩, hstr, trivial⟩, trivial⟩
    · obtain rfl : k = l.length := by omega
      clear hb
      repeat first | refine lwp_seq fun K hK => ?_ | (with_reducible refine gA ?_; apply_assumption -exfalso -symm) | refine Stp.h ?_ | refine gF rfl ?_ | refine gG rfl ?_ | refine gM hC rfl sd ?_
      (refine end_intro (by first | exact .inr rfl | exact .inl rfl) [(2, some 2), (3, some 3)] rfl ?_)
      exact sd

end Go.Proofs.YtlhgddgoblliaaaGreatDoor
