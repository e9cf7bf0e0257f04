/- Chapter 9: Late, the program's and the reference's; lists compared. -/
import Derived.Test.YtccddhoeampdjaaGreatDoorNe
set_option linter.unusedVariables false
set_option linter.unusedSimpArgs false
namespace Go.Proofs.YtccddhoeampdjaaGreatDoor
open Go.RowKit Go.Sym

theorem ba_beq (a b : ByteArray) : (a == b) = true ↔ a = b := by
  cases a with | mk a => cases b with | mk b =>
  constructor
  · intro h
    have : (a == b) = true := h
    rw [eq_of_beq this]
  · intro h
    cases h
    show (a == a) = true
    exact beq_self_eq_true a
theorem ba_same (a : ByteArray) : (a == a) = true := (ba_beq a a).2 rfl

def reaV (p : Int × ByteArray) : List Value := [.int .i64 p.1, .string p.2]
def reaC (l : List (Int × ByteArray)) : Cont := genL reaV (0, { data := #[] }) 2 l
theorem reaC_snoc (l : List (Int × ByteArray)) (x : Int × ByteArray) : (reaC (l ++ [x])).cells = (catC (reaC l) (Cont.exp [i64 x.1, .lit (.string x.2)])).cells := by
  rw [catC_cells]; exact genL_snoc (f := reaV) (fun _ => rfl) l x
theorem whyS_fit {S : List Sec} {T : List Shf} {i : Nat} (h : fitN S T i T.length = true) : whyS S T i = { data := #[] } := if_pos h
theorem whyS_not {S : List Sec} {T : List Shf} {i : Nat} (h : fitN S T i T.length = false) : whyS S T i ≠ { data := #[] } := by
  unfold whyS
  rw [if_neg (by rw [h]; simp)]
  split
  · decide
  · split <;> decide
/-- The late ones of the first sections, with the reasons. -/
def lateL (S : List Sec) (T : List Shf) : Nat → List (Int × ByteArray)
  | 0 => []
  | i + 1 => if fitN S T i T.length = true then lateL S T i else lateL S T i ++ [((i : Int), whyS S T i)]
theorem lateL_len (S : List Sec) (T : List Shf) : ∀ i, (lateL S T i).length ≤ i
  | 0 => Nat.le_refl _
  | i + 1 => by
    have := lateL_len S T i
    unfold lateL
    split
    · omega
    · simp; omega
def lateR (S : List Sec) (T : List Shf) : List (Int × ByteArray) := if offE S T = 0 then lateL S T S.length else []

def LateP_i (S : List Sec) (T : List Shf) (σ : Ren) : Inst := { f := 20, hin := offIn S T, args := [ofA S T], hout := [(2, .row 128 (lateR S T).length 2 (reaC (lateR S T)))], ret := .tup [.sl 2 (lateR S T).length, i64 (offE S T)], σ := σ }
set_option maxRecDepth 20000 in
set_option maxHeartbeats 4000000 in
theorem LateP_s (S : List Sec) (T : List Shf) (σ : Ren) (hS : S.length ≤ 1000000) (hT : T.length ≤ 1000000) : (LateP_i S T σ).ok Tryz.prog := by
  unfold LateP_i
  by_cases hz : offE S T = 0
  · have e1 : lateR S T = lateL S T S.length := if_pos hz
    have hB := offB hz
    have hS7 := hB.lS
    have hT5 := hB.lT
    rw [e1, hz]
    have HE := Lib.hid hz
    have h0 : lateL S T 0 = [] := rfl
    have H0 := Lib.hid h0
    clear hB e1 h0
    unfold Inst.ok; dsimp only; refine spec_of_body (tys := tys) 2 Tryz.func20 (by kernel_rfl) rfl tys_ok rfl (Nat.le_of_ble_eq_true rfl) (fun _ _ h => (by cases h)) fun F hP hm hC hrd => ?_; conv => whnf
    repeat first | refine lwp_seq fun K hK => ?_ | (with_reducible refine gA ?_; apply_assumption -exfalso -symm) | refine Stp.h ?_ | refine gF rfl ?_ | refine gG rfl ?_ | refine gM hC rfl sd ?_
    (refine lwp_region hC ⟨[], [], [(1, Off_i S T [(0, some 0), (1, some 1)])]⟩ (told1 _ (by rw [hP]; exact (calls_cons (Off_s _ _ _ hS hT) calls_nil))) rfl ?_ ?_; rotate_left 1)
    · repeat first | refine lwp_seq fun K hK => ?_ | (with_reducible refine gA ?_; apply_assumption -exfalso -symm) | refine Stp.h ?_ | refine gF rfl ?_ | refine gG rfl ?_ | refine gM hC rfl sd ?_
      refine lwp_condS hC rfl sd ?_ ?_ <;> intro hb
      · exact absurd hz hb
      · clear hb
        repeat first | refine lwp_seq fun K hK => ?_ | (with_reducible refine gA ?_; apply_assumption -exfalso -symm) | refine Stp.h ?_ | refine gF rfl ?_ | refine gG rfl ?_ | refine gM hC rfl sd ?_
        refine lwp_loop (fun i : Nat => ⟨[(16, i64 i), (15, i64 S.length), (1, .ptr 2 0 0 0), (5, .sl 3 (lateL S T i).length)], [(3, .row 128 (lateL S T i).length 2 (reaC (lateL S T i))), (2, .blk 37 [.sl 0 S.length, .sl 1 T.length]), (0, .ro S.length 5 (secC S)), (1, .ro T.length 4 (shfC T))], 4⟩) (fun i => i ≤ S.length) (fun i => S.length - i) 0 ⟨?_, sub_intro hm [(0, some 0), (1, some 1), (2, some 2), (3, none)] rfl ?_⟩ ?_
        · exact Nat.zero_le _
        · rw [H0.out]
          exact sd
        · rintro i hi
          repeat first | refine lwp_seq fun K hK => ?_ | (with_reducible refine gA ?_; apply_assumption -exfalso -symm) | refine Stp.h ?_ | refine gF rfl ?_ | refine gG rfl ?_ | refine gM hC rfl sd ?_
          refine lwp_condS hC rfl sd ?_ ?_ <;> intro hb
          · have hi2 : i < S.length := by omega
            have hll := lateL_len S T i
            clear hb
            repeat first | refine lwp_seq fun K hK => ?_ | (with_reducible refine gA ?_; apply_assumption -exfalso -symm) | refine Stp.h ?_ | refine gF rfl ?_ | refine gG rfl ?_ | refine gM hC rfl sd ?_
            (refine lwp_region hC ⟨[], [], [(3, Why_i S T i [(0, some 0), (1, some 1)])]⟩ (told1 _ (by rw [hP]; exact (calls_cons (Why_s _ _ _ _ hi2 (by omega) (by omega)) calls_nil))) rfl ?_ ?_; rotate_left 1)
            · repeat first | refine lwp_seq fun K hK => ?_ | (with_reducible refine gA ?_; apply_assumption -exfalso -symm) | refine Stp.h ?_ | refine gF rfl ?_ | refine gG rfl ?_ | refine gM hC rfl ⟨⟩ ?_
              (refine lwp_region hC ⟨[], [(3, custWhy)], []⟩ ⟨(fun p hp => by rcases List.mem_cons.1 hp with rfl | hp; rw [hP]; exact custWhy_ok; cases hp), (fun _ h => (by cases h))⟩ rfl ?_ ?_; rotate_left 1)
              · have hnx : lateL S T (i + 1) = if fitN S T i T.length = true then lateL S T i else lateL S T i ++ [((i : Int), whyS S T i)] := rfl
                by_cases hfn : fitN S T i T.length = true
                · rw [if_pos hfn] at hnx
                  have HN := Lib.hid hnx
                  rw [whyS_fit hfn]
                  clear hnx
                  repeat first | refine lwp_seq fun K hK => ?_ | (with_reducible refine gA ?_; apply_assumption -exfalso -symm) | refine Stp.h ?_ | refine gF rfl ?_ | refine gG rfl ?_ | refine gM hC rfl ⟨⟩ ?_
                  refine lwp_condS hC rfl sd ?_ ?_ <;> intro hb
                  · simp [ba_same] at hb
                  · clear hb
                    repeat first | refine lwp_seq fun K hK => ?_ | (with_reducible refine gA ?_; apply_assumption -exfalso -symm) | refine Stp.h ?_ | refine gF rfl ?_ | refine gG rfl ?_ | refine gM hC rfl sd ?_
                    refine gA ⟨i + 1, ?_, ?_, sub_intro hm [(0, some 0), (1, some 1), (2, some 2), (3, some 3)] rfl ?_⟩
                    · omega
                    · omega
                    · rw [HN.out]
                      exact sd
                · rw [if_neg hfn] at hnx
                  have hne := whyS_not (by simpa using hfn)
                  have hsn := reaC_snoc (lateL S T i) ((i : Int), whyS S T i)
                  obtain ⟨w, hw⟩ : ∃ w, whyS S T i = w := ⟨_, rfl⟩
                  rw [hw] at hnx hne hsn ⊢
                  have HN := Lib.hid hnx
                  have HS := Lib.hid hsn
                  have HW := Lib.hid hne
                  clear hnx hne hsn
                  repeat first | refine lwp_seq fun K hK => ?_ | (with_reducible refine gA ?_; apply_assumption -exfalso -symm) | refine Stp.h ?_ | refine gF rfl ?_ | refine gG rfl ?_ | refine gM hC rfl ⟨⟩ ?_
                  refine lwp_condS hC rfl sd ?_ ?_ <;> intro hb
                  · clear hb
                    repeat first | refine lwp_seq fun K hK => ?_ | (with_reducible refine gA ?_; apply_assumption -exfalso -symm) | refine Stp.h ?_ | refine gF rfl ?_ | refine gG rfl ?_ | refine gM hC rfl sd ?_
                    refine gA ⟨i + 1, ?_, ?_, sub_intro hm [(0, some 0), (1, some 1), (2, some 2), (3, some 7)] rfl ?_⟩
                    · omega
                    · omega
                    · rw [HN.out]
                      have h1 := HS.out
                      exact sd
                  · simp at hb
                    exact absurd ((ba_beq _ _).1 hb) HW.out
              · exact sd
            · exact sd
          · obtain rfl : i = S.length := by omega
            repeat first | refine lwp_seq fun K hK => ?_ | (with_reducible refine gA ?_; apply_assumption -exfalso -symm) | refine Stp.h ?_ | refine gF rfl ?_ | refine gG rfl ?_ | refine gM hC rfl sd ?_
            (refine end_intro (by first | exact .inr rfl | exact .inl rfl) [(2, some 3)] rfl ?_)
            exact sd
    · exact sd
  · have e1 : lateR S T = [] := if_neg hz
    rw [e1]
    unfold Inst.ok; dsimp only; refine spec_of_body (tys := tys) 2 Tryz.func20 (by kernel_rfl) rfl tys_ok rfl (Nat.le_of_ble_eq_true rfl) (fun _ _ h => (by cases h)) fun F hP hm hC hrd => ?_; conv => whnf
    repeat first | refine lwp_seq fun K hK => ?_ | (with_reducible refine gA ?_; apply_assumption -exfalso -symm) | refine Stp.h ?_ | refine gF rfl ?_ | refine gG rfl ?_ | refine gM hC rfl sd ?_
    (refine lwp_region hC ⟨[], [], [(1, Off_i S T [(0, some 0), (1, some 1)])]⟩ (told1 _ (by rw [hP]; exact (calls_cons (Off_s _ _ _ hS hT) calls_nil))) rfl ?_ ?_; rotate_left 1)
    · repeat first | refine lwp_seq fun K hK => ?_ | (with_reducible refine gA ?_; apply_assumption -exfalso -symm) | refine Stp.h ?_ | refine gF rfl ?_ | refine gG rfl ?_ | refine gM hC rfl sd ?_
      refine lwp_condS hC rfl sd ?_ ?_ <;> intro hb
      · repeat first | refine lwp_seq fun K hK => ?_ | (with_reducible refine gA ?_; apply_assumption -exfalso -symm) | refine Stp.h ?_ | refine gF rfl ?_ | refine gG rfl ?_ | refine gM hC rfl sd ?_
        (refine end_intro (by first | exact .inr rfl | exact .inl rfl) [(2, none)] rfl ?_)
        exact sd
      · exact absurd hb hz
    · exact sd

def Reas_i (l : List (Int × ByteArray)) (σ : Ren) : Inst := { f := 28, hin := [(0, .ro l.length 2 (reaC l))], args := [.sl 0 l.length], hout := [(1, .row 179 l.length 2 (reaC l))], ret := .sl 1 l.length, σ := σ }
set_option maxRecDepth 20000 in
theorem Reas_s (l : List (Int × ByteArray)) (σ : Ren) (hl : l.length ≤ 1000000) : (Reas_i l σ).ok Tryz.prog := by
  unfold Reas_i Inst.ok; dsimp only; refine spec_of_body (tys := tys) 1 Tryz.func28 (by kernel_rfl) rfl tys_ok rfl (Nat.le_of_ble_eq_true rfl) (fun _ _ h => (by cases h)) fun F hP hm hC hrd => ?_; conv => whnf
  repeat first | refine lwp_seq fun K hK => ?_ | (with_reducible refine gA ?_; apply_assumption -exfalso -symm) | refine Stp.h ?_ | refine gF rfl ?_ | refine gG rfl ?_ | refine gM hC rfl sd ?_
  refine lwp_loop (fun k : Nat => ⟨[(8, i64 k), (7, i64 l.length), (6, .sl 0 l.length), (3, .sl 1 k)], [(1, .row 179 k 2 (reaC (l.take k))), (0, .ro l.length 2 (reaC l))], 2⟩) (fun k => k ≤ l.length) (fun k => l.length - k) 0 ⟨?_, sub_intro hm [(0, some 0), (1, none)] rfl ?_⟩ ?_
  · exact Nat.zero_le _
  · exact sd
  · rintro k hk
    have hkk : ((k : Int)).toNat = k := Int.toNat_natCast k
    repeat first | refine lwp_seq fun K hK => ?_ | (with_reducible refine gA ?_; apply_assumption -exfalso -symm) | refine Stp.h ?_ | refine gF rfl ?_ | refine gG rfl ?_ | refine gM hC rfl sd ?_
    refine lwp_condS hC rfl sd ?_ ?_ <;> intro hb
    · have hk2 : k < l.length := by omega
      have hsn := reaC_snoc (l.take k) (l.getD k (0, { data := #[] }))
      have htk : l.take (k + 1) = l.take k ++ [l.getD k (0, { data := #[] })] := by
        rw [List.take_add_one, List.getElem?_eq_getElem hk2]
        simp [List.getD_eq_getElem?_getD, hk2]
      rw [← htk] at hsn
      have HS := Lib.hid hsn
      clear hsn htk
      repeat first | refine lwp_seq fun K hK => ?_ | (with_reducible refine gA ?_; apply_assumption -exfalso -symm) | refine Stp.h ?_ | refine gF rfl ?_ | refine gG rfl ?_ | refine gM hC rfl sd ?_
      refine gA ⟨k + 1, ?_, ?_, sub_intro hm [(0, some 0), (1, some 5)] rfl ?_⟩
      · omega
      · omega
      · rw [hkk]
        have h1 := HS.out
        exact sd
    · obtain rfl : k = l.length := by omega
      repeat first | refine lwp_seq fun K hK => ?_ | (with_reducible refine gA ?_; apply_assumption -exfalso -symm) | refine Stp.h ?_ | refine gF rfl ?_ | refine gG rfl ?_ | refine gM hC rfl sd ?_
      (refine end_intro (by first | exact .inr rfl | exact .inl rfl) [(1, some 1)] rfl ?_)
      rw [List.take_length]
      exact sd

def SameR_i (l : List (Int × ByteArray)) (σ : Ren) : Inst := { f := 27, hin := [(0, .ro l.length 2 (reaC l)), (1, .ro l.length 2 (reaC l))], args := [.sl 0 l.length, .sl 1 l.length], hout := [], ret := bl true, σ := σ }
set_option maxRecDepth 20000 in
theorem SameR_s (l : List (Int × ByteArray)) (σ : Ren) (hl : l.length ≤ 1000000) : (SameR_i l σ).ok Tryz.prog := by
  unfold SameR_i Inst.ok; dsimp only; refine spec_of_body (tys := tys) 2 Tryz.func27 (by kernel_rfl) rfl tys_ok rfl (Nat.le_of_ble_eq_true rfl) (fun _ _ h => (by cases h)) fun F hP hm hC hrd => ?_; conv => whnf
  repeat first | refine lwp_seq fun K hK => ?_ | (with_reducible refine gA ?_; apply_assumption -exfalso -symm) | refine Stp.h ?_ | refine gF rfl ?_ | refine gG rfl ?_ | refine gM hC rfl sd ?_
  refine lwp_condS hC rfl sd ?_ ?_ <;> intro hb
  · exact absurd rfl hb
  · clear hb
    repeat first | refine lwp_seq fun K hK => ?_ | (with_reducible refine gA ?_; apply_assumption -exfalso -symm) | refine Stp.h ?_ | refine gF rfl ?_ | refine gG rfl ?_ | refine gM hC rfl sd ?_
    refine lwp_loop (fun k : Nat => ⟨[(5, i64 k), (0, .sl 0 l.length), (1, .sl 1 l.length)], [(0, .ro l.length 2 (reaC l)), (1, .ro l.length 2 (reaC l))], 2⟩) (fun k => k ≤ l.length) (fun k => l.length - k) 0 ⟨?_, sub_intro hm [(0, some 0), (1, some 1)] rfl ?_⟩ ?_
    · exact Nat.zero_le _
    · exact sd
    · rintro k hk
      have hkk : ((k : Int)).toNat = k := Int.toNat_natCast k
      repeat first | refine lwp_seq fun K hK => ?_ | (with_reducible refine gA ?_; apply_assumption -exfalso -symm) | refine Stp.h ?_ | refine gF rfl ?_ | refine gG rfl ?_ | refine gM hC rfl sd ?_
      refine lwp_condS hC rfl sd ?_ ?_ <;> intro hb
      · have hk2 : k < l.length := by omega
        repeat first | refine lwp_seq fun K hK => ?_ | (with_reducible refine gA ?_; apply_assumption -exfalso -symm) | refine Stp.h ?_ | refine gF rfl ?_ | refine gG rfl ?_ | refine gM hC rfl ⟨⟩ ?_
        (refine lwp_drawn hC (by rw [hP]; exact mixed) ⟨[], [(8, custRWhy)], []⟩ ⟨(fun p hp => by rcases List.mem_cons.1 hp with rfl | hp; rw [hP]; exact custRWhy_ok; cases hp), (fun _ h => (by cases h))⟩ [0, 0, 3, 7, 0, 0, 48, 112, 255] 8 rfl ?_ ?_; rotate_left 1)
        · rw [hkk]
          repeat first | refine lwp_seq fun K hK => ?_ | (with_reducible refine gA ?_; apply_assumption -exfalso -symm) | refine Stp.h ?_ | refine gF rfl ?_ | refine gG rfl ?_ | refine gM hC rfl ⟨⟩ ?_
          refine lwp_condS hC rfl sd ?_ ?_ <;> intro hb
          · simp [ba_same] at hb
          · repeat first | refine lwp_seq fun K hK => ?_ | (with_reducible refine gA ?_; apply_assumption -exfalso -symm) | refine Stp.h ?_ | refine gF rfl ?_ | refine gG rfl ?_ | refine gM hC rfl sd ?_
            refine gA ⟨k + 1, ?_, ?_, sub_intro hm [(0, some 0), (1, some 1)] rfl ?_⟩
            · omega
            · omega
            · exact sd
        · rw [hkk]
          exact sd
      · repeat first | refine lwp_seq fun K hK => ?_ | (with_reducible refine gA ?_; apply_assumption -exfalso -symm) | refine Stp.h ?_ | refine gF rfl ?_ | refine gG rfl ?_ | refine gM hC rfl sd ?_
        (refine end_intro (by first | exact .inr rfl | exact .inl rfl) [] rfl ?_)
        exact ⟨rfl, trivial⟩

def SameI_i (l : List Int) (σ : Ren) : Inst := { f := 26, hin := [(0, .ro l.length 1 (.ints .i64 l)), (1, .ro l.length 1 (.ints .i64 l))], args := [.sl 0 l.length, .sl 1 l.length], hout := [], ret := bl true, σ := σ }
set_option maxRecDepth 20000 in
theorem SameI_s (l : List Int) (σ : Ren) (hl : l.length ≤ 1000000) : (SameI_i l σ).ok Tryz.prog := by
  unfold SameI_i Inst.ok; dsimp only; refine spec_of_body (tys := tys) 2 Tryz.func26 (by kernel_rfl) rfl tys_ok rfl (Nat.le_of_ble_eq_true rfl) (fun _ _ h => (by cases h)) fun F hP hm hC hrd => ?_; conv => whnf
  repeat first | refine lwp_seq fun K hK => ?_ | (with_reducible refine gA ?_; apply_assumption -exfalso -symm) | refine Stp.h ?_ | refine gF rfl ?_ | refine gG rfl ?_ | refine gM hC rfl sd ?_
  refine lwp_condS hC rfl sd ?_ ?_ <;> intro hb
  · exact absurd rfl hb
  · clear hb
    repeat first | refine lwp_seq fun K hK => ?_ | (with_reducible refine gA ?_; apply_assumption -exfalso -symm) | refine Stp.h ?_ | refine gF rfl ?_ | refine gG rfl ?_ | refine gM hC rfl sd ?_
    refine lwp_loop (fun k : Nat => ⟨[(5, i64 k), (0, .sl 0 l.length), (1, .sl 1 l.length)], [(0, .ro l.length 1 (.ints .i64 l)), (1, .ro l.length 1 (.ints .i64 l))], 2⟩) (fun k => k ≤ l.length) (fun k => l.length - k) 0 ⟨?_, sub_intro hm [(0, some 0), (1, some 1)] rfl ?_⟩ ?_
    · exact Nat.zero_le _
    · exact sd
    · rintro k hk
      have hkk : ((k : Int)).toNat = k := Int.toNat_natCast k
      repeat first | refine lwp_seq fun K hK => ?_ | (with_reducible refine gA ?_; apply_assumption -exfalso -symm) | refine Stp.h ?_ | refine gF rfl ?_ | refine gG rfl ?_ | refine gM hC rfl sd ?_
      refine lwp_condS hC rfl sd ?_ ?_ <;> intro hb
      · have hk2 : k < l.length := by omega
        repeat first | refine lwp_seq fun K hK => ?_ | (with_reducible refine gA ?_; apply_assumption -exfalso -symm) | refine Stp.h ?_ | refine gF rfl ?_ | refine gG rfl ?_ | refine gM hC rfl ⟨⟩ ?_
        (refine lwp_drawn hC (by rw [hP]; exact mixed) ⟨[], [], []⟩ (told0 _ _) [0, 0, 3, 7, 0, 0, 48, 112, 255] 8 rfl ?_ ?_; rotate_left 1)
        · repeat first | refine lwp_seq fun K hK => ?_ | (with_reducible refine gA ?_; apply_assumption -exfalso -symm) | refine Stp.h ?_ | refine gF rfl ?_ | refine gG rfl ?_ | refine gM hC rfl ⟨⟩ ?_
          refine lwp_condS hC rfl sd ?_ ?_ <;> intro hb
          · simp at hb
          · repeat first | refine lwp_seq fun K hK => ?_ | (with_reducible refine gA ?_; apply_assumption -exfalso -symm) | refine Stp.h ?_ | refine gF rfl ?_ | refine gG rfl ?_ | refine gM hC rfl sd ?_
            refine gA ⟨k + 1, ?_, ?_, sub_intro hm [(0, some 0), (1, some 1)] rfl ?_⟩
            · omega
            · omega
            · exact sd
        · exact sd
      · repeat first | refine lwp_seq fun K hK => ?_ | (with_reducible refine gA ?_; apply_assumption -exfalso -symm) | refine Stp.h ?_ | refine gF rfl ?_ | refine gG rfl ?_ | refine gM hC rfl sd ?_
        (refine end_intro (by first | exact .inr rfl | exact .inl rfl) [] rfl ?_)
        exact ⟨rfl, trivial⟩

def RLate_i (S : List Sec) (T : List Shf) (σ : Ren) : Inst := { f := 23, hin := offIn S T, args := [ofA S T], hout := [(2, .row 179 (lateL S T S.length).length 2 (reaC (lateL S T S.length)))], ret := .sl 2 (lateL S T S.length).length, σ := σ }
set_option maxRecDepth 20000 in
set_option maxHeartbeats 8000000 in
theorem RLate_s (S : List Sec) (T : List Shf) (σ : Ren) (hS : S.length ≤ 1000) (hT : T.length ≤ 1000) : (RLate_i S T σ).ok Tryz.prog := by
  have h0 : lateL S T 0 = [] := rfl
  have H0 := Lib.hid h0
  clear h0
  unfold RLate_i Inst.ok; dsimp only; refine spec_of_body (tys := tys) 2 Tryz.func23 (by kernel_rfl) rfl tys_ok rfl (Nat.le_of_ble_eq_true rfl) (fun _ _ h => (by cases h)) fun F hP hm hC hrd => ?_; conv => whnf
  repeat first | refine lwp_seq fun K hK => ?_ | (with_reducible refine gA ?_; apply_assumption -exfalso -symm) | refine Stp.h ?_ | refine gF rfl ?_ | refine gG rfl ?_ | refine gM hC rfl sd ?_
  refine lwp_loop (fun i : Nat => ⟨[(4, i64 i), (1, .ptr 2 0 0 0), (3, .sl 3 (lateL S T i).length)], [(3, .row 179 (lateL S T i).length 2 (reaC (lateL S T i))), (2, .blk 25 [.sl 0 S.length, .sl 1 T.length]), (0, .ro S.length 5 (secC S)), (1, .ro T.length 4 (shfC T))], 4⟩) (fun i => i ≤ S.length) (fun i => S.length - i) 0 ⟨?_, sub_intro hm [(0, some 0), (1, some 1), (2, some 2), (3, none)] rfl ?_⟩ ?_
  · exact Nat.zero_le _
  · rw [H0.out]
    exact sd
  · rintro i hi
    have hii : ((i : Int)).toNat = i := Int.toNat_natCast i
    repeat first | refine lwp_seq fun K hK => ?_ | (with_reducible refine gA ?_; apply_assumption -exfalso -symm) | refine Stp.h ?_ | refine gF rfl ?_ | refine gG rfl ?_ | refine gM hC rfl sd ?_
    refine lwp_condS hC rfl sd ?_ ?_ <;> intro hb
    · have hi2 : i < S.length := by omega
      have hll := lateL_len S T i
      clear hb
      repeat first | refine lwp_seq fun K hK => ?_ | (with_reducible refine gA ?_; apply_assumption -exfalso -symm) | refine Stp.h ?_ | refine gF rfl ?_ | refine gG rfl ?_ | refine gM hC rfl sd ?_
      rw [hii]
      obtain ⟨s, hse⟩ : ∃ s, S.getD i secD = s := ⟨_, rfl⟩
      rw [hse]
      refine lwp_loop (fun k : Nat => ⟨[(9, i64 k), (6, bl (dayN S T i k)), (7, bl (hrsN S T i k)), (8, bl (fitN S T i k)), (4, i64 i), (5, .ptr 4 0 0 0), (1, .ptr 2 0 0 0), (3, .sl 3 (lateL S T i).length)], [(4, .blk 130 [.lit (.string s.name), i64 s.dl, i64 s.wk, i64 s.bl, i64 s.vl]), (3, .row 179 (lateL S T i).length 2 (reaC (lateL S T i))), (2, .blk 25 [.sl 0 S.length, .sl 1 T.length]), (0, .ro S.length 5 (secC S)), (1, .ro T.length 4 (shfC T))], 6⟩) (fun k => k ≤ T.length) (fun k => T.length - k) 0 ⟨?_, sub_intro hm [(0, some 0), (1, some 1), (2, some 2), (3, some 3), (4, some 4)] rfl ?_⟩ ?_
      · exact Nat.zero_le _
      · exact sd
      · rintro k hk
        have hkk : ((k : Int)).toNat = k := Int.toNat_natCast k
        repeat first | refine lwp_seq fun K hK => ?_ | (with_reducible refine gA ?_; apply_assumption -exfalso -symm) | refine Stp.h ?_ | refine gF rfl ?_ | refine gG rfl ?_ | refine gM hC rfl sd ?_
        refine lwp_condS hC rfl sd ?_ ?_ <;> intro hb
        · have hk2 : k < T.length := by omega
          have n1 : dayN S T i (k + 1) = bif inTimeB S T i k then true else dayN S T i k := rfl
          have n2 : hrsN S T i (k + 1) = bif inTimeB S T i k then (bif hrsN S T i k then true else hrB S T i k) else hrsN S T i k := rfl
          have n3 : fitN S T i (k + 1) = bif inTimeB S T i k then (bif fitN S T i k then true else bif hrB S T i k then blB S T i k else false) else fitN S T i k := rfl
          have n0 : inTimeB S T i k = decide ((T.getD k shfD).day ≤ s.dl) := by rw [← hse]; rfl
          have n4 : hrB S T i k = decide (s.wk ≤ (T.getD k shfD).hr) := by rw [← hse]; rfl
          have n5 : blB S T i k = decide (s.bl ≤ (T.getD k shfD).bl) := by rw [← hse]; rfl
          rw [n4] at n2 n3
          rw [n5] at n3
          have N0 := Lib.hid n0
          have N1 := Lib.hid n1
          have N2 := Lib.hid n2
          have N3 := Lib.hid n3
          clear n0 n1 n2 n3 n4 n5 hb
          repeat first | refine lwp_seq fun K hK => ?_ | (with_reducible refine gA ?_; apply_assumption -exfalso -symm) | refine Stp.h ?_ | refine gF rfl ?_ | refine gG rfl ?_ | refine gM hC rfl sd ?_
          rw [hkk]
          obtain ⟨x, hxe⟩ : ∃ x, T.getD k shfD = x := ⟨_, rfl⟩
          rw [hxe] at N0 N2 N3 ⊢
          repeat first | refine lwp_seq fun K hK => ?_ | (with_reducible refine gA ?_; apply_assumption -exfalso -symm) | refine Stp.h ?_ | refine gF rfl ?_ | refine gG rfl ?_ | refine gM hC rfl ⟨⟩ ?_
          refine lwp_condS hC rfl sd ?_ ?_ <;> intro hb
          · have ht : inTimeB S T i k = true := by rw [N0.out]; simpa using hb
            rw [ht] at N1 N2 N3
            clear hb ht
            generalize dayN S T i k = bd at *
            generalize hrsN S T i k = bh at *
            generalize fitN S T i k = bf at *
            repeat first | refine lwp_seq fun K hK => ?_ | (with_reducible refine gA ?_; apply_assumption -exfalso -symm) | refine Stp.h ?_ | refine gF rfl ?_ | refine gG rfl ?_
            (refine lwp_region hC ⟨[], [], []⟩ (told0 _ _) rfl ?_ ?_; rotate_left 1)
            · cases bh <;> cases bf
              all_goals
                repeat first | refine lwp_seq fun K hK => ?_ | (with_reducible refine gA ?_; apply_assumption -exfalso -symm) | refine Stp.h ?_ | refine gF rfl ?_ | refine gG rfl ?_
                (refine lwp_region hC ⟨[], [], []⟩ (told0 _ _) rfl ?_ ?_; rotate_left 1)
                · repeat first | refine lwp_seq fun K hK => ?_ | (with_reducible refine gA ?_; apply_assumption -exfalso -symm) | refine Stp.h ?_ | refine gF rfl ?_ | refine gG rfl ?_
                  (refine lwp_region hC ⟨[], [], []⟩ (told0 _ _) rfl ?_ ?_; rotate_left 1)
                  · repeat first | refine lwp_seq fun K hK => ?_ | (with_reducible refine gA ?_; apply_assumption -exfalso -symm) | refine Stp.h ?_ | refine gF rfl ?_ | refine gG rfl ?_ | refine gM hC rfl sd ?_
                    refine gA ⟨k + 1, ?_, ?_, sub_intro hm [(0, some 0), (1, some 1), (2, some 2), (3, some 3), (4, some 4)] rfl ?_⟩
                    · omega
                    · omega
                    · rw [N1.out, N2.out, N3.out]
                      exact sd
                  · generalize decide (s.wk ≤ x.hr) = u
                    cases u <;> exact sd
                · exact sd
            · exact sd
          · have ht : inTimeB S T i k = false := by rw [N0.out]; simpa using hb
            rw [ht] at N1 N2 N3
            clear hb ht
            repeat first | refine lwp_seq fun K hK => ?_ | (with_reducible refine gA ?_; apply_assumption -exfalso -symm) | refine Stp.h ?_ | refine gF rfl ?_ | refine gG rfl ?_ | refine gM hC rfl sd ?_
            refine gA ⟨k + 1, ?_, ?_, sub_intro hm [(0, some 0), (1, some 1), (2, some 2), (3, some 3), (4, some 4)] rfl ?_⟩
            · omega
            · omega
            · rw [N1.out, N2.out, N3.out]
              exact sd
        · obtain rfl : k = T.length := by omega
          clear hb
          cases d1 : dayN S T i T.length with
          | true =>
            cases d2 : hrsN S T i T.length with
            | true =>
              cases d3 : fitN S T i T.length with
              | true =>
                have hnx : lateL S T (i + 1) = lateL S T i := if_pos d3
                have HN := Lib.hid hnx
                clear hnx
                clear d1 d2 d3
                repeat first | refine lwp_seq fun K hK => ?_ | (with_reducible refine gA ?_; apply_assumption -exfalso -symm) | refine Stp.h ?_ | refine gF rfl ?_ | refine gG rfl ?_ | refine gM hC rfl ⟨⟩ ?_
                refine lwp_condS hC rfl sd ?_ ?_ <;> intro hb
                · simp at hb
                · clear hb
                  repeat first | refine lwp_seq fun K hK => ?_ | (with_reducible refine gA ?_; apply_assumption -exfalso -symm) | refine Stp.h ?_ | refine gF rfl ?_ | refine gG rfl ?_ | refine gM hC rfl ⟨⟩ ?_
                  refine lwp_condS hC rfl sd ?_ ?_ <;> intro hb
                  · simp at hb
                  · clear hb
                    repeat first | refine lwp_seq fun K hK => ?_ | (with_reducible refine gA ?_; apply_assumption -exfalso -symm) | refine Stp.h ?_ | refine gF rfl ?_ | refine gG rfl ?_ | refine gM hC rfl ⟨⟩ ?_
                    refine lwp_condS hC rfl sd ?_ ?_ <;> intro hb
                    · simp at hb
                    · clear hb
                      repeat first | refine lwp_seq fun K hK => ?_ | (with_reducible refine gA ?_; apply_assumption -exfalso -symm) | refine Stp.h ?_ | refine gF rfl ?_ | refine gG rfl ?_ | refine gM hC rfl sd ?_
                      refine gA ⟨i + 1, ?_, ?_, sub_intro hm [(0, some 0), (1, some 1), (2, some 2), (3, some 3)] rfl ?_⟩
                      · omega
                      · omega
                      · rw [HN.out]
                        exact sd
              | false =>
                have hw : whyS S T i = ballastS := by unfold whyS; rw [d1, d2, d3]; rfl
                have hnx : lateL S T (i + 1) = lateL S T i ++ [((i : Int), ballastS)] := by rw [← hw]; show (if _ then _ else _) = _; rw [if_neg (by rw [d3]; simp)]
                have hsn := reaC_snoc (lateL S T i) ((i : Int), ballastS)
                have HS := Lib.hid hsn
                clear hsn hw
                have HN := Lib.hid hnx
                clear hnx
                clear d1 d2 d3
                repeat first | refine lwp_seq fun K hK => ?_ | (with_reducible refine gA ?_; apply_assumption -exfalso -symm) | refine Stp.h ?_ | refine gF rfl ?_ | refine gG rfl ?_ | refine gM hC rfl ⟨⟩ ?_
                refine lwp_condS hC rfl sd ?_ ?_ <;> intro hb
                · simp at hb
                · clear hb
                  repeat first | refine lwp_seq fun K hK => ?_ | (with_reducible refine gA ?_; apply_assumption -exfalso -symm) | refine Stp.h ?_ | refine gF rfl ?_ | refine gG rfl ?_ | refine gM hC rfl ⟨⟩ ?_
                  refine lwp_condS hC rfl sd ?_ ?_ <;> intro hb
                  · simp at hb
                  · clear hb
                    repeat first | refine lwp_seq fun K hK => ?_ | (with_reducible refine gA ?_; apply_assumption -exfalso -symm) | refine Stp.h ?_ | refine gF rfl ?_ | refine gG rfl ?_ | refine gM hC rfl ⟨⟩ ?_
                    refine lwp_condS hC rfl sd ?_ ?_ <;> intro hb
                    · clear hb
                      repeat first | refine lwp_seq fun K hK => ?_ | (with_reducible refine gA ?_; apply_assumption -exfalso -symm) | refine Stp.h ?_ | refine gF rfl ?_ | refine gG rfl ?_ | refine gM hC rfl sd ?_
                      refine gA ⟨i + 1, ?_, ?_, sub_intro hm [(0, some 0), (1, some 1), (2, some 2), (3, some 7)] rfl ?_⟩
                      · omega
                      · omega
                      · rw [HN.out]
                        have h1 := HS.out
                        dsimp only [dayS, hoursS, ballastS] at h1 ⊢
                        exact sd
                    · simp at hb
            | false =>
              cases d3 : fitN S T i T.length with
              | true =>
                have hnx : lateL S T (i + 1) = lateL S T i := if_pos d3
                have HN := Lib.hid hnx
                clear hnx
                clear d1 d2 d3
                repeat first | refine lwp_seq fun K hK => ?_ | (with_reducible refine gA ?_; apply_assumption -exfalso -symm) | refine Stp.h ?_ | refine gF rfl ?_ | refine gG rfl ?_ | refine gM hC rfl ⟨⟩ ?_
                refine lwp_condS hC rfl sd ?_ ?_ <;> intro hb
                · clear hb
                  repeat first | refine lwp_seq fun K hK => ?_ | (with_reducible refine gA ?_; apply_assumption -exfalso -symm) | refine Stp.h ?_ | refine gF rfl ?_ | refine gG rfl ?_ | refine gM hC rfl ⟨⟩ ?_
                  refine lwp_condS hC rfl sd ?_ ?_ <;> intro hb
                  · simp at hb
                  · clear hb
                    repeat first | refine lwp_seq fun K hK => ?_ | (with_reducible refine gA ?_; apply_assumption -exfalso -symm) | refine Stp.h ?_ | refine gF rfl ?_ | refine gG rfl ?_ | refine gM hC rfl ⟨⟩ ?_
                    refine lwp_condS hC rfl sd ?_ ?_ <;> intro hb
                    · simp at hb
                    · clear hb
                      repeat first | refine lwp_seq fun K hK => ?_ | (with_reducible refine gA ?_; apply_assumption -exfalso -symm) | refine Stp.h ?_ | refine gF rfl ?_ | refine gG rfl ?_ | refine gM hC rfl sd ?_
                      refine gA ⟨i + 1, ?_, ?_, sub_intro hm [(0, some 0), (1, some 1), (2, some 2), (3, some 3)] rfl ?_⟩
                      · omega
                      · omega
                      · rw [HN.out]
                        exact sd
                · simp at hb
              | false =>
                have hw : whyS S T i = hoursS := by unfold whyS; rw [d1, d2, d3]; rfl
                have hnx : lateL S T (i + 1) = lateL S T i ++ [((i : Int), hoursS)] := by rw [← hw]; show (if _ then _ else _) = _; rw [if_neg (by rw [d3]; simp)]
                have hsn := reaC_snoc (lateL S T i) ((i : Int), hoursS)
                have HS := Lib.hid hsn
                clear hsn hw
                have HN := Lib.hid hnx
                clear hnx
                clear d1 d2 d3
                repeat first | refine lwp_seq fun K hK => ?_ | (with_reducible refine gA ?_; apply_assumption -exfalso -symm) | refine Stp.h ?_ | refine gF rfl ?_ | refine gG rfl ?_ | refine gM hC rfl ⟨⟩ ?_
                refine lwp_condS hC rfl sd ?_ ?_ <;> intro hb
                · clear hb
                  repeat first | refine lwp_seq fun K hK => ?_ | (with_reducible refine gA ?_; apply_assumption -exfalso -symm) | refine Stp.h ?_ | refine gF rfl ?_ | refine gG rfl ?_ | refine gM hC rfl ⟨⟩ ?_
                  refine lwp_condS hC rfl sd ?_ ?_ <;> intro hb
                  · simp at hb
                  · clear hb
                    repeat first | refine lwp_seq fun K hK => ?_ | (with_reducible refine gA ?_; apply_assumption -exfalso -symm) | refine Stp.h ?_ | refine gF rfl ?_ | refine gG rfl ?_ | refine gM hC rfl ⟨⟩ ?_
                    refine lwp_condS hC rfl sd ?_ ?_ <;> intro hb
                    · clear hb
                      repeat first | refine lwp_seq fun K hK => ?_ | (with_reducible refine gA ?_; apply_assumption -exfalso -symm) | refine Stp.h ?_ | refine gF rfl ?_ | refine gG rfl ?_ | refine gM hC rfl sd ?_
                      refine gA ⟨i + 1, ?_, ?_, sub_intro hm [(0, some 0), (1, some 1), (2, some 2), (3, some 7)] rfl ?_⟩
                      · omega
                      · omega
                      · rw [HN.out]
                        have h1 := HS.out
                        dsimp only [dayS, hoursS, ballastS] at h1 ⊢
                        exact sd
                    · simp at hb
                · simp at hb
          | false =>
            cases d2 : hrsN S T i T.length with
            | true =>
              cases d3 : fitN S T i T.length with
              | true =>
                have hnx : lateL S T (i + 1) = lateL S T i := if_pos d3
                have HN := Lib.hid hnx
                clear hnx
                clear d1 d2 d3
                repeat first | refine lwp_seq fun K hK => ?_ | (with_reducible refine gA ?_; apply_assumption -exfalso -symm) | refine Stp.h ?_ | refine gF rfl ?_ | refine gG rfl ?_ | refine gM hC rfl ⟨⟩ ?_
                refine lwp_condS hC rfl sd ?_ ?_ <;> intro hb
                · simp at hb
                · clear hb
                  repeat first | refine lwp_seq fun K hK => ?_ | (with_reducible refine gA ?_; apply_assumption -exfalso -symm) | refine Stp.h ?_ | refine gF rfl ?_ | refine gG rfl ?_ | refine gM hC rfl ⟨⟩ ?_
                  refine lwp_condS hC rfl sd ?_ ?_ <;> intro hb
                  · clear hb
                    repeat first | refine lwp_seq fun K hK => ?_ | (with_reducible refine gA ?_; apply_assumption -exfalso -symm) | refine Stp.h ?_ | refine gF rfl ?_ | refine gG rfl ?_ | refine gM hC rfl ⟨⟩ ?_
                    refine lwp_condS hC rfl sd ?_ ?_ <;> intro hb
                    · simp at hb
                    · clear hb
                      repeat first | refine lwp_seq fun K hK => ?_ | (with_reducible refine gA ?_; apply_assumption -exfalso -symm) | refine Stp.h ?_ | refine gF rfl ?_ | refine gG rfl ?_ | refine gM hC rfl sd ?_
                      refine gA ⟨i + 1, ?_, ?_, sub_intro hm [(0, some 0), (1, some 1), (2, some 2), (3, some 3)] rfl ?_⟩
                      · omega
                      · omega
                      · rw [HN.out]
                        exact sd
                  · simp at hb
              | false =>
                have hw : whyS S T i = dayS := by unfold whyS; rw [d1, d2, d3]; rfl
                have hnx : lateL S T (i + 1) = lateL S T i ++ [((i : Int), dayS)] := by rw [← hw]; show (if _ then _ else _) = _; rw [if_neg (by rw [d3]; simp)]
                have hsn := reaC_snoc (lateL S T i) ((i : Int), dayS)
                have HS := Lib.hid hsn
                clear hsn hw
                have HN := Lib.hid hnx
                clear hnx
                clear d1 d2 d3
                repeat first | refine lwp_seq fun K hK => ?_ | (with_reducible refine gA ?_; apply_assumption -exfalso -symm) | refine Stp.h ?_ | refine gF rfl ?_ | refine gG rfl ?_ | refine gM hC rfl ⟨⟩ ?_
                refine lwp_condS hC rfl sd ?_ ?_ <;> intro hb
                · simp at hb
                · clear hb
                  repeat first | refine lwp_seq fun K hK => ?_ | (with_reducible refine gA ?_; apply_assumption -exfalso -symm) | refine Stp.h ?_ | refine gF rfl ?_ | refine gG rfl ?_ | refine gM hC rfl ⟨⟩ ?_
                  refine lwp_condS hC rfl sd ?_ ?_ <;> intro hb
                  · clear hb
                    repeat first | refine lwp_seq fun K hK => ?_ | (with_reducible refine gA ?_; apply_assumption -exfalso -symm) | refine Stp.h ?_ | refine gF rfl ?_ | refine gG rfl ?_ | refine gM hC rfl ⟨⟩ ?_
                    refine lwp_condS hC rfl sd ?_ ?_ <;> intro hb
                    · clear hb
                      repeat first | refine lwp_seq fun K hK => ?_ | (with_reducible refine gA ?_; apply_assumption -exfalso -symm) | refine Stp.h ?_ | refine gF rfl ?_ | refine gG rfl ?_ | refine gM hC rfl sd ?_
                      refine gA ⟨i + 1, ?_, ?_, sub_intro hm [(0, some 0), (1, some 1), (2, some 2), (3, some 7)] rfl ?_⟩
                      · omega
                      · omega
                      · rw [HN.out]
                        have h1 := HS.out
                        dsimp only [dayS, hoursS, ballastS] at h1 ⊢
                        exact sd
                    · simp at hb
                  · simp at hb
            | false =>
              cases d3 : fitN S T i T.length with
              | true =>
                have hnx : lateL S T (i + 1) = lateL S T i := if_pos d3
                have HN := Lib.hid hnx
                clear hnx
                clear d1 d2 d3
                repeat first | refine lwp_seq fun K hK => ?_ | (with_reducible refine gA ?_; apply_assumption -exfalso -symm) | refine Stp.h ?_ | refine gF rfl ?_ | refine gG rfl ?_ | refine gM hC rfl ⟨⟩ ?_
                refine lwp_condS hC rfl sd ?_ ?_ <;> intro hb
                · clear hb
                  repeat first | refine lwp_seq fun K hK => ?_ | (with_reducible refine gA ?_; apply_assumption -exfalso -symm) | refine Stp.h ?_ | refine gF rfl ?_ | refine gG rfl ?_ | refine gM hC rfl ⟨⟩ ?_
                  refine lwp_condS hC rfl sd ?_ ?_ <;> intro hb
                  · clear hb
                    repeat first | refine lwp_seq fun K hK => ?_ | (with_reducible refine gA ?_; apply_assumption -exfalso -symm) | refine Stp.h ?_ | refine gF rfl ?_ | refine gG rfl ?_ | refine gM hC rfl ⟨⟩ ?_
                    refine lwp_condS hC rfl sd ?_ ?_ <;> intro hb
                    · simp at hb
                    · clear hb
                      repeat first | refine lwp_seq fun K hK => ?_ | (with_reducible refine gA ?_; apply_assumption -exfalso -symm) | refine Stp.h ?_ | refine gF rfl ?_ | refine gG rfl ?_ | refine gM hC rfl sd ?_
                      refine gA ⟨i + 1, ?_, ?_, sub_intro hm [(0, some 0), (1, some 1), (2, some 2), (3, some 3)] rfl ?_⟩
                      · omega
                      · omega
                      · rw [HN.out]
                        exact sd
                  · simp at hb
                · simp at hb
              | false =>
                have hw : whyS S T i = dayS := by unfold whyS; rw [d1, d2, d3]; rfl
                have hnx : lateL S T (i + 1) = lateL S T i ++ [((i : Int), dayS)] := by rw [← hw]; show (if _ then _ else _) = _; rw [if_neg (by rw [d3]; simp)]
                have hsn := reaC_snoc (lateL S T i) ((i : Int), dayS)
                have HS := Lib.hid hsn
                clear hsn hw
                have HN := Lib.hid hnx
                clear hnx
                clear d1 d2 d3
                repeat first | refine lwp_seq fun K hK => ?_ | (with_reducible refine gA ?_; apply_assumption -exfalso -symm) | refine Stp.h ?_ | refine gF rfl ?_ | refine gG rfl ?_ | refine gM hC rfl ⟨⟩ ?_
                refine lwp_condS hC rfl sd ?_ ?_ <;> intro hb
                · clear hb
                  repeat first | refine lwp_seq fun K hK => ?_ | (with_reducible refine gA ?_; apply_assumption -exfalso -symm) | refine Stp.h ?_ | refine gF rfl ?_ | refine gG rfl ?_ | refine gM hC rfl ⟨⟩ ?_
                  refine lwp_condS hC rfl sd ?_ ?_ <;> intro hb
                  · clear hb
                    repeat first | refine lwp_seq fun K hK => ?_ | (with_reducible refine gA ?_; apply_assumption -exfalso -symm) | refine Stp.h ?_ | refine gF rfl ?_ | refine gG rfl ?_ | refine gM hC rfl ⟨⟩ ?_
                    refine lwp_condS hC rfl sd ?_ ?_ <;> intro hb
                    · clear hb
                      repeat first | refine lwp_seq fun K hK => ?_ | (with_reducible refine gA ?_; apply_assumption -exfalso -symm) | refine Stp.h ?_ | refine gF rfl ?_ | refine gG rfl ?_ | refine gM hC rfl sd ?_
                      refine gA ⟨i + 1, ?_, ?_, sub_intro hm [(0, some 0), (1, some 1), (2, some 2), (3, some 7)] rfl ?_⟩
                      · omega
                      · omega
                      · rw [HN.out]
                        have h1 := HS.out
                        dsimp only [dayS, hoursS, ballastS] at h1 ⊢
                        exact sd
                    · simp at hb
                  · simp at hb
                · simp at hb
    · obtain rfl : i = S.length := by omega
      repeat first | refine lwp_seq fun K hK => ?_ | (with_reducible refine gA ?_; apply_assumption -exfalso -symm) | refine Stp.h ?_ | refine gF rfl ?_ | refine gG rfl ?_ | refine gM hC rfl sd ?_
      (refine end_intro (by first | exact .inr rfl | exact .inl rfl) [(2, some 3)] rfl ?_)
      exact sd

end Go.Proofs.YtccddhoeampdjaaGreatDoor
