/- Chapter 9: late sections, the program's and the reference's; lists compared. -/
import Derived.Test.YtccddhoeampdjaaGreatDoorNc
set_option linter.unusedVariables false
set_option linter.unusedSimpArgs false
namespace Go.Proofs.YtccddhoeampdjaaGreatDoor
open Go.RowKit Go.Sym

def hrB (S : List Sec) (T : List Shf) (i k : Nat) : Bool := decide ((S.getD i secD).wk ≤ (T.getD k shfD).hr)
def blB (S : List Sec) (T : List Shf) (i k : Nat) : Bool := decide ((S.getD i secD).bl ≤ (T.getD k shfD).bl)
def dayN (S : List Sec) (T : List Shf) (i : Nat) : Nat → Bool
  | 0 => false
  | k + 1 => bif inTimeB S T i k then true else dayN S T i k
def hrsN (S : List Sec) (T : List Shf) (i : Nat) : Nat → Bool
  | 0 => false
  | k + 1 => bif inTimeB S T i k then (bif hrsN S T i k then true else hrB S T i k) else hrsN S T i k
def fitN (S : List Sec) (T : List Shf) (i : Nat) : Nat → Bool
  | 0 => false
  | k + 1 => bif inTimeB S T i k then (bif fitN S T i k then true else bif hrB S T i k then blB S T i k else false) else fitN S T i k
theorem fitN_grow {S : List Sec} {T : List Shf} {i k : Nat} (h : fitN S T i k = true) : ∀ d, fitN S T i (k + d) = true
  | 0 => h
  | d + 1 => by
    show (bif inTimeB S T i (k + d) then (bif fitN S T i (k + d) then true else _) else fitN S T i (k + d)) = true
    rw [fitN_grow h d]
    cases inTimeB S T i (k + d) <;> rfl
def dayS : ByteArray := { data := #[100, 97, 121] }
def hoursS : ByteArray := { data := #[104, 111, 117, 114, 115] }
def ballastS : ByteArray := { data := #[98, 97, 108, 108, 97, 115, 116] }
/-- Why a section is late. -/
def whyS (S : List Sec) (T : List Shf) (i : Nat) : ByteArray := if fitN S T i T.length = true then { data := #[] } else if dayN S T i T.length = false then dayS else if hrsN S T i T.length = false then hoursS else ballastS
def Why_i (S : List Sec) (T : List Shf) (i : Nat) (σ : Ren) : Inst := { f := 89, hin := offIn S T, args := [ofA S T, i64 i], hout := [], ret := .lit (.string (whyS S T i)), σ := σ }
set_option maxRecDepth 20000 in
set_option maxHeartbeats 4000000 in
theorem Why_s (S : List Sec) (T : List Shf) (i : Nat) (σ : Ren) (hi : i < S.length) (hS : S.length ≤ 1000) (hT : T.length ≤ 1000) : (Why_i S T i σ).ok Tryz.prog := by
  have hw : whyS S T i = if fitN S T i T.length = true then { data := #[] } else if dayN S T i T.length = false then dayS else if hrsN S T i T.length = false then hoursS else ballastS := rfl
  have HW := Lib.hid hw
  clear hw
  have e0 : ((i : Int)).toNat = i := Int.toNat_natCast i
  unfold Why_i Inst.ok; dsimp only; refine spec_of_body (tys := tys) 2 Tryz.func89 (by kernel_rfl) rfl tys_ok rfl (Nat.le_of_ble_eq_true rfl) (fun _ _ h => (by cases h)) fun F hP hm hC hrd => ?_; conv => whnf
  repeat first | refine lwp_seq fun K hK => ?_ | (with_reducible refine gA ?_; apply_assumption -exfalso -symm) | refine Stp.h ?_ | refine gF rfl ?_ | refine gG rfl ?_ | refine gM hC rfl ⟨⟩ ?_
  (refine lwp_region hC ⟨[], [], []⟩ (told0 _ _) rfl ?_ ?_; rotate_left 1)
  · rw [e0]
    repeat first | refine lwp_seq fun K hK => ?_ | (with_reducible refine gA ?_; apply_assumption -exfalso -symm) | refine Stp.h ?_ | refine gF rfl ?_ | refine gG rfl ?_ | refine gM hC rfl sd ?_
    obtain ⟨s, hse⟩ : ∃ s, S.getD i secD = s := ⟨_, rfl⟩
    rw [hse]
    refine lwp_loop (fun k : Nat => ⟨[(18, i64 k), (17, i64 T.length), (16, .sl 1 T.length), (1, i64 i), (2, .ptr 2 0 0 0), (5, .ptr 3 0 0 0), (6, bl (dayN S T i k)), (7, bl (hrsN S T i k))], [(3, .blk 160 [.lit (.string s.name), i64 s.dl, i64 s.wk, i64 s.bl, i64 s.vl]), (2, .blk 37 [.sl 0 S.length, .sl 1 T.length]), (0, .ro S.length 5 (secC S)), (1, .ro T.length 4 (shfC T))], 5⟩) (fun k => k ≤ T.length ∧ fitN S T i k = false) (fun k => T.length - k) 0 ⟨?_, sub_intro hm [(0, some 0), (1, some 1), (2, some 2), (3, some 3)] rfl ?_⟩ ?_
    · exact ⟨Nat.zero_le _, rfl⟩
    · exact sd
    · rintro k ⟨hk, hf⟩
      have hkk : ((k : Int)).toNat = k := Int.toNat_natCast k
      repeat first | refine lwp_seq fun K hK => ?_ | (with_reducible refine gA ?_; apply_assumption -exfalso -symm) | refine Stp.h ?_ | refine gF rfl ?_ | refine gG rfl ?_ | refine gM hC rfl sd ?_
      refine lwp_condS hC rfl sd ?_ ?_ <;> intro hb
      · have hk2 : k < T.length := by omega
        have n1 : dayN S T i (k + 1) = bif inTimeB S T i k then true else dayN S T i k := rfl
        have n2 : hrsN S T i (k + 1) = bif inTimeB S T i k then (bif hrsN S T i k then true else hrB S T i k) else hrsN S T i k := rfl
        have n3 : fitN S T i (k + 1) = bif inTimeB S T i k then (bif fitN S T i k then true else bif hrB S T i k then blB S T i k else false) else fitN S T i k := rfl
        have n4 : hrB S T i k = decide (s.wk ≤ (T.getD k shfD).hr) := by rw [← hse]; rfl
        have n5 : blB S T i k = decide (s.bl ≤ (T.getD k shfD).bl) := by rw [← hse]; rfl
        have hgr := fun h => @fitN_grow S T i (k + 1) h (T.length - (k + 1))
        rw [show k + 1 + (T.length - (k + 1)) = T.length by omega] at hgr
        rw [hf] at n3
        have N1 := Lib.hid n1
        have N2 := Lib.hid n2
        have N3 := Lib.hid n3
        have N4 := Lib.hid n4
        have N5 := Lib.hid n5
        have HGR := Lib.hid hgr
        have HF := Lib.hid hf
        clear n1 n2 n3 n4 n5 hgr hf hb
        repeat first | refine lwp_seq fun K hK => ?_ | (with_reducible refine gA ?_; apply_assumption -exfalso -symm) | refine Stp.h ?_ | refine gF rfl ?_ | refine gG rfl ?_ | refine gM hC rfl sd ?_
        rw [hkk]
        obtain ⟨x, hxe⟩ : ∃ x, T.getD k shfD = x := ⟨_, rfl⟩
        rw [hxe] at N4 N5 ⊢
        (refine lwp_region hC ⟨[], [], [(3, InT_i S T i k [(0, some 0), (1, some 1)])]⟩ (told1 _ (by rw [hP]; exact (calls_cons (InT_s _ _ _ _ _ hi hk2 hS hT) calls_nil))) rfl ?_ ?_; rotate_left 1)
        · repeat first | refine lwp_seq fun K hK => ?_ | (with_reducible refine gA ?_; apply_assumption -exfalso -symm) | refine Stp.h ?_ | refine gF rfl ?_ | refine gG rfl ?_ | refine gM hC rfl sd ?_
          by_cases ht : inTimeB S T i k = true
          · rw [ht] at N1 N2 N3
            rw [ht]
            refine lwp_condS hC rfl sd ?_ ?_ <;> intro hb
            · simp at hb
            · clear hb
              repeat first | refine lwp_seq fun K hK => ?_ | (with_reducible refine gA ?_; apply_assumption -exfalso -symm) | refine Stp.h ?_ | refine gF rfl ?_ | refine gG rfl ?_ | refine gM hC rfl ⟨⟩ ?_
              refine lwp_condS hC rfl sd ?_ ?_ <;> intro hb
              · have b1 : hrB S T i k = true := by rw [N4.out]; simpa using hb
                rw [b1] at N2 N3
                clear hb
                repeat first | refine lwp_seq fun K hK => ?_ | (with_reducible refine gA ?_; apply_assumption -exfalso -symm) | refine Stp.h ?_ | refine gF rfl ?_ | refine gG rfl ?_ | refine gM hC rfl ⟨⟩ ?_
                refine lwp_condS hC rfl sd ?_ ?_ <;> intro hb
                · have b2 : blB S T i k = true := by rw [N5.out]; simpa using hb
                  rw [b2] at N3
                  have hfin := HGR.out N3.out
                  have e := HW.out
                  rw [if_pos hfin] at e
                  have EE := Lib.hid e
                  clear hb e hfin
                  repeat first | refine lwp_seq fun K hK => ?_ | (with_reducible refine gA ?_; apply_assumption -exfalso -symm) | refine Stp.h ?_ | refine gF rfl ?_ | refine gG rfl ?_ | refine gM hC rfl sd ?_
                  (refine end_intro (by first | exact .inr rfl | exact .inl rfl) [] rfl ?_)
                  rw [EE.out]
                  exact sd
                · have b2 : blB S T i k = false := by rw [N5.out]; simpa using hb
                  rw [b2] at N3
                  have hf2 := N3.out
                  have h2 := N2.out
                  clear hb
                  repeat first | refine lwp_seq fun K hK => ?_ | (with_reducible refine gA ?_; apply_assumption -exfalso -symm) | refine Stp.h ?_ | refine gF rfl ?_ | refine gG rfl ?_ | refine gM hC rfl sd ?_
                  refine gA ⟨k + 1, ?_, ?_, sub_intro hm [(0, some 0), (1, some 1), (2, some 2), (3, some 3)] rfl ?_⟩
                  · exact ⟨hk2, hf2⟩
                  · omega
                  · rw [N1.out, N2.out]
                    cases hrsN S T i k <;> exact sd
              · have b1 : hrB S T i k = false := by rw [N4.out]; simpa using hb
                rw [b1] at N2 N3
                have hf2 := N3.out
                clear hb
                repeat first | refine lwp_seq fun K hK => ?_ | (with_reducible refine gA ?_; apply_assumption -exfalso -symm) | refine Stp.h ?_ | refine gF rfl ?_ | refine gG rfl ?_ | refine gM hC rfl sd ?_
                refine gA ⟨k + 1, ?_, ?_, sub_intro hm [(0, some 0), (1, some 1), (2, some 2), (3, some 3)] rfl ?_⟩
                · exact ⟨hk2, hf2⟩
                · omega
                · rw [N1.out, N2.out]
                  cases hrsN S T i k <;> exact sd
          · have ht : inTimeB S T i k = false := by simpa using ht
            rw [ht] at N1 N2 N3
            rw [ht]
            refine lwp_condS hC rfl sd ?_ ?_ <;> intro hb
            · clear hb
              have hf2 := N3.out
              repeat first | refine lwp_seq fun K hK => ?_ | (with_reducible refine gA ?_; apply_assumption -exfalso -symm) | refine Stp.h ?_ | refine gF rfl ?_ | refine gG rfl ?_ | refine gM hC rfl sd ?_
              refine gA ⟨k + 1, ?_, ?_, sub_intro hm [(0, some 0), (1, some 1), (2, some 2), (3, some 3)] rfl ?_⟩
              · exact ⟨hk2, hf2⟩
              · omega
              · rw [N1.out, N2.out]
                exact sd
            · simp at hb
        · exact sd
      · obtain rfl : k = T.length := by omega
        clear hb
        have e := HW.out
        rw [hf, if_neg (by simp)] at e
        have EE := Lib.hid e
        clear hf e
        by_cases d1 : dayN S T i T.length = true
        · have e := EE.out
          rw [d1, if_neg (by simp)] at e
          rw [d1]
          by_cases d2 : hrsN S T i T.length = true
          · rw [d2, if_neg (by simp)] at e
            have E2 := Lib.hid e
            rw [d2]
            clear e
            repeat first | refine lwp_seq fun K hK => ?_ | (with_reducible refine gA ?_; apply_assumption -exfalso -symm) | refine Stp.h ?_ | refine gF rfl ?_ | refine gG rfl ?_ | refine gM hC rfl sd ?_
            refine lwp_condS hC rfl sd ?_ ?_ <;> intro hb
            · simp at hb
            · repeat first | refine lwp_seq fun K hK => ?_ | (with_reducible refine gA ?_; apply_assumption -exfalso -symm) | refine Stp.h ?_ | refine gF rfl ?_ | refine gG rfl ?_ | refine gM hC rfl sd ?_
              refine lwp_condS hC rfl sd ?_ ?_ <;> intro hb
              · simp at hb
              · repeat first | refine lwp_seq fun K hK => ?_ | (with_reducible refine gA ?_; apply_assumption -exfalso -symm) | refine Stp.h ?_ | refine gF rfl ?_ | refine gG rfl ?_ | refine gM hC rfl sd ?_
                (refine end_intro (by first | exact .inr rfl | exact .inl rfl) [] rfl ?_)
                rw [E2.out]
                exact sd
          · have d2 : hrsN S T i T.length = false := by simpa using d2
            rw [if_pos d2] at e
            have E2 := Lib.hid e
            rw [d2]
            clear e
            repeat first | refine lwp_seq fun K hK => ?_ | (with_reducible refine gA ?_; apply_assumption -exfalso -symm) | refine Stp.h ?_ | refine gF rfl ?_ | refine gG rfl ?_ | refine gM hC rfl sd ?_
            refine lwp_condS hC rfl sd ?_ ?_ <;> intro hb
            · simp at hb
            · repeat first | refine lwp_seq fun K hK => ?_ | (with_reducible refine gA ?_; apply_assumption -exfalso -symm) | refine Stp.h ?_ | refine gF rfl ?_ | refine gG rfl ?_ | refine gM hC rfl sd ?_
              refine lwp_condS hC rfl sd ?_ ?_ <;> intro hb
              · repeat first | refine lwp_seq fun K hK => ?_ | (with_reducible refine gA ?_; apply_assumption -exfalso -symm) | refine Stp.h ?_ | refine gF rfl ?_ | refine gG rfl ?_ | refine gM hC rfl sd ?_
                (refine end_intro (by first | exact .inr rfl | exact .inl rfl) [] rfl ?_)
                rw [E2.out]
                exact sd
              · simp at hb
        · have d1 : dayN S T i T.length = false := by simpa using d1
          have e := EE.out
          rw [if_pos d1] at e
          have E2 := Lib.hid e
          rw [d1]
          clear e
          repeat first | refine lwp_seq fun K hK => ?_ | (with_reducible refine gA ?_; apply_assumption -exfalso -symm) | refine Stp.h ?_ | refine gF rfl ?_ | refine gG rfl ?_ | refine gM hC rfl sd ?_
          refine lwp_condS hC rfl sd ?_ ?_ <;> intro hb
          · repeat first | refine lwp_seq fun K hK => ?_ | (with_reducible refine gA ?_; apply_assumption -exfalso -symm) | refine Stp.h ?_ | refine gF rfl ?_ | refine gG rfl ?_ | refine gM hC rfl sd ?_
            (refine end_intro (by first | exact .inr rfl | exact .inl rfl) [] rfl ?_)
            rw [E2.out]
            exact sd
          · simp at hb
  · rw [e0]
    exact sd

end Go.Proofs.YtccddhoeampdjaaGreatDoor
