/- Chapter 9: the law PlanBounded. -/
import Derived.Test.YtccddhoeampdjaaGreatDoorNf
import Derived.Test.YtccddhoeampdjaaGreatDoorNj
import Derived.Test.YtccddhoeampdjaaGreatDoorOb
import Derived.Test.YtccddhoeampdjaaGreatDoorPx
set_option linter.unusedVariables false
set_option linter.unusedSimpArgs false
namespace Go.Proofs.YtccddhoeampdjaaGreatDoor
open Go.RowKit Go.Sym

def byteV (q : Int) : AV := .lit (.int .u8 q)
/-- The other plan. -/
def othL (S : List Sec) (T : List Shf) (X : List Int) : Nat → List Int
  | 0 => []
  | k + 1 => othL S T X k ++ [modI T.length (((X.drop 0).take (S.length - 0)).getD k 0)]
theorem othL_len (S : List Sec) (T : List Shf) (X : List Int) : ∀ k, (othL S T X k).length = k
  | 0 => rfl
  | k + 1 => by simp [othL, othL_len S T X k]
def bdH (S : List Sec) (T : List Shf) (X : List Int) (q0 q1 q2 q3 : Int) (B : List Int) (v : Int × Int) : List (Nat × Chunk) := [(9, .row 3 B.length 1 (.ints .i64 B)), (10, .blk 30 [i64 v.1, i64 v.2]), (5, .blk 25 [.sl 2 S.length, .sl 3 T.length]), (6, .blk 124 [byteV q0, byteV q1, byteV q2, byteV q3]), (4, .ro X.length 1 (.ints .u8 X)), (3, .ro T.length 4 (shfC T)), (2, .ro S.length 5 (secC S)), (1, kdC), (0, pwC)]
def bdT (n : Nat) : List (Nat × AV) := [(3, .ptr 5 0 0 0), (5, .ptr 6 0 0 0), (7, .sl 9 n), (8, .ptr 10 0 0 0)]
theorem quarters {q0 q1 q2 q3 : Int} (h0 : 0 ≤ q0 ∧ q0 ≤ 255) (h1 : 0 ≤ q1 ∧ q1 ≤ 255) (h2 : 0 ≤ q2 ∧ q2 ≤ 255) (h3 : 0 ≤ q3 ∧ q3 ≤ 255) : ∀ k, 0 ≤ [q0, q1, q2, q3].getD k 0 ∧ [q0, q1, q2, q3].getD k 0 ≤ 255
  | 0 => h0
  | 1 => h1
  | 2 => h2
  | 3 => h3
  | k + 4 => ⟨Int.le_refl 0, show (0 : Int) ≤ 255 by omega⟩
/-- The late ones, as a set. -/
def iS (LT : List (Int × ByteArray)) : Nat → List Int
  | 0 => []
  | k + 1 => setI (iS LT k) (LT.getD k (0, { data := #[] })).1
theorem memI_iff {l : List Int} {s : Int} : memI l s = true ↔ s ∈ l := by
  unfold memI; simp
theorem setI_mem {l : List Int} {s x : Int} : x ∈ setI l s ↔ x ∈ l ∨ x = s := by
  unfold setI
  cases h : memI l s with
  | true =>
    have := memI_iff.1 h
    constructor
    · exact .inl
    · rintro (h | rfl)
      · exact h
      · exact this
  | false => simp
theorem iS_mem (LT : List (Int × ByteArray)) (i : Nat) : memI (iS LT LT.length) i = true ↔ ∃ r ∈ LT, r.1 = (i : Int) := by
  rw [memI_iff]
  have key : ∀ n, n ≤ LT.length → ((i : Int) ∈ iS LT n ↔ ∃ k, k < n ∧ (LT.getD k (0, { data := #[] })).1 = (i : Int)) := by
    intro n
    induction n with
    | zero => intro _; simp [iS]
    | succ n ih =>
      intro hn
      rw [iS, setI_mem, ih (by omega)]
      constructor
      · rintro (⟨k, h1, h2⟩ | h)
        · exact ⟨k, by omega, h2⟩
        · exact ⟨n, by omega, h.symm⟩
      · rintro ⟨k, h1, h2⟩
        by_cases e : k = n
        · subst e; exact .inr h2.symm
        · exact .inl ⟨k, by omega, h2⟩
  rw [key _ (Nat.le_refl _)]
  constructor
  · rintro ⟨k, h1, h2⟩
    rw [List.getD_eq_getElem?_getD, List.getElem?_eq_getElem h1] at h2
    exact ⟨_, List.getElem_mem h1, h2⟩
  · rintro ⟨r, hr, h⟩
    obtain ⟨k, hk, rfl⟩ := List.mem_iff_getElem.1 hr
    exact ⟨k, hk, by rw [List.getD_eq_getElem?_getD, List.getElem?_eq_getElem hk]; exact h⟩
def LawBd_i (S : List Sec) (T : List Shf) (X : List Int) (q0 q1 q2 q3 : Int) : Inst := { f := 11, gl := lawG, hin := [(0, pwC), (1, kdC), (2, .ro S.length 5 (secC S)), (3, .ro T.length 4 (shfC T)), (4, .ro X.length 1 (.ints .u8 X))], args := [.agg [.sl 2 S.length, .sl 3 T.length], .sl 4 X.length, .agg [byteV q0, byteV q1, byteV q2, byteV q3]], hout := [], ret := bl true, σ := [] }
set_option maxRecDepth 20000 in
set_option maxHeartbeats 16000000 in
theorem LawBd_s (S : List Sec) (T : List Shf) (X : List Int) (q0 q1 q2 q3 : Int) (hS : S.length ≤ 9223372036854775807) (hT : T.length ≤ 9223372036854775807) (hX : X.length ≤ 9223372036854775807) (hXb : ∀ k, 0 ≤ X.getD k 0 ∧ X.getD k 0 ≤ 255) (h0 : 0 ≤ q0 ∧ q0 ≤ 255) (h1 : 0 ≤ q1 ∧ q1 ≤ 255) (h2 : 0 ≤ q2 ∧ q2 ≤ 255) (h3 : 0 ≤ q3 ∧ q3 ≤ 255) : (LawBd_i S T X q0 q1 q2 q3).ok Tryz.prog := by
  have HXB := Lib.hid hXb
  clear hXb
  unfold LawBd_i Inst.ok; dsimp only; refine spec_of_body (tys := tys) 5 Tryz.func11 (by kernel_rfl) rfl tys_ok rfl (Nat.le_of_ble_eq_true rfl) (fun g i h => by simp only [List.mem_cons, List.not_mem_nil, or_false, Prod.mk.injEq] at h; omega) fun F hP hm hC hrd => ?_; conv => whnf
  repeat first | refine lwp_seq fun K hK => ?_ | (with_reducible refine gA ?_; apply_assumption -exfalso -symm) | refine Stp.h ?_ | refine gF rfl ?_ | refine gG rfl ?_ | refine gM hC rfl ⟨⟩ ?_
  by_cases c1 : shortO S T = true
  · obtain ⟨hN, s8, t6⟩ := shortO_len c1
    (refine lwp_region hC ⟨[(3, { b := some false })], [], [(1, ShortO_i S T [(0, some 2), (1, some 3)]), (5, ROff_i S T [(0, some 2), (1, some 3)])]⟩ (told1 _ (by rw [hP]; exact (calls_cons (ShortO_s _ _ _ hS hT) (calls_cons (ROff_s _ _ _ (by omega) (by omega) hN) calls_nil)))) rfl ?_ ?_; rotate_left 1)
    · repeat first | refine lwp_seq fun K hK => ?_ | (with_reducible refine gA ?_; apply_assumption -exfalso -symm) | refine Stp.h ?_ | refine gF rfl ?_ | refine gG rfl ?_ | refine gM hC rfl ⟨⟩ ?_
      by_cases hz : offE S T = 0
      · refine lwp_condS hC rfl sd ?_ ?_ <;> intro hb
        · exfalso; simp_all
        · clear hb c1 hN
          have hB := offB hz
          have hf := best_fine hB
          have e1 : planEr S T = bestP S T := if_pos hz
          have e2 : planVr S T = valP S T (bestP S T) := if_pos hz
          have e3 : lateR S T = lateL S T S.length := if_pos hz
          have e4 := fine_plan hz hf
          have hmax := fun P h => @best_max S T hB P h
          have hbl := hf.l
          have hS7 := hB.lS
          have hT5 := hB.lT
          have HB := Lib.hid hB
          have HF := Lib.hid hf
          have HZ := Lib.hid hz
          have E1 := Lib.hid e1
          have E2 := Lib.hid e2
          have E3 := Lib.hid e3
          have E4 := Lib.hid e4
          have HM := Lib.hid hmax
          clear hB hf e1 e2 e3 e4 hmax
          obtain ⟨B, hBe⟩ : ∃ B, bestP S T = B := ⟨_, rfl⟩
          have HBE := Lib.hid hBe
          rw [hBe] at hbl HF E1 E2 E4 HM
          clear hBe
          obtain ⟨v, hve⟩ : ∃ v, valP S T B = v := ⟨_, rfl⟩
          have HVE := Lib.hid hve
          rw [hve] at E2 E4 HM
          clear hve
          repeat first | refine lwp_seq fun K hK => ?_ | (with_reducible refine gA ?_; apply_assumption -exfalso -symm) | refine Stp.h ?_ | refine gF rfl ?_ | refine gG rfl ?_ | refine gM hC rfl ⟨⟩ ?_
          (refine lwp_region hC ⟨[], [], [(1, Own_i S T [(0, some 2), (1, some 3)]), (2, PlanF_i S T [(0, some 7), (1, some 8)])]⟩ (told1 _ (by rw [hP]; exact (calls_cons (Own_s _ _ _ (by omega) (by omega)) (calls_cons (PlanF_s _ _ _ (by omega) (by omega)) calls_nil)))) rfl ?_ ?_; rotate_left 1)
          · rw [E1.out, E2.out, hz]
            repeat first | refine lwp_seq fun K hK => ?_ | (with_reducible refine gA ?_; apply_assumption -exfalso -symm) | refine Stp.h ?_ | refine gF rfl ?_ | refine gG rfl ?_ | refine gM hC rfl ⟨⟩ ?_
            refine lwp_condS hC rfl sd ?_ ?_ <;> intro hb
            · exact absurd rfl hb
            · clear hb
              repeat first | refine lwp_seq fun K hK => ?_ | (with_reducible refine gA ?_; apply_assumption -exfalso -symm) | refine Stp.h ?_ | refine gF rfl ?_ | refine gG rfl ?_ | refine gM hC rfl ⟨⟩ ?_
              (refine lwp_region hC ⟨[], [], [(1, Own_i S T [(0, some 2), (1, some 3)]), (3, LInts_i B [(0, some 9)]), (4, CheckP_i S T B [(0, some 12), (1, some 13), (2, some 14)])]⟩ (told1 _ (by rw [hP]; exact (calls_cons (Own_s _ _ _ (by omega) (by omega)) (calls_cons (LInts_s _ _ (by omega)) (calls_cons (CheckP_s _ _ _ _ (by omega) (by omega) (by omega)) calls_nil))))) rfl ?_ ?_; rotate_left 1)
              · rw [E4.out.1, E4.out.2]
                repeat first | refine lwp_seq fun K hK => ?_ | (with_reducible refine gA ?_; apply_assumption -exfalso -symm) | refine Stp.h ?_ | refine gF rfl ?_ | refine gG rfl ?_ | refine gM hC rfl ⟨⟩ ?_
                (refine lwp_region hC ⟨[(2, { b := some false }), (7, { b := some false })], [(5, custToldN)], []⟩ ⟨(fun p hp => by rcases List.mem_cons.1 hp with rfl | hp; rw [hP]; exact custToldN_ok; cases hp), (fun _ h => (by cases h))⟩ rfl ?_ ?_; rotate_left 1)
                · repeat first | refine lwp_seq fun K hK => ?_ | (with_reducible refine gA ?_; apply_assumption -exfalso -symm) | refine Stp.h ?_ | refine gF rfl ?_ | refine gG rfl ?_ | refine gM hC rfl ⟨⟩ ?_
                  refine lwp_condS hC rfl sd ?_ ?_ <;> intro hb
                  · exfalso; simp_all
                  · clear hb
                    refine Stp.h ?_
                    ((with_reducible refine gA ?_); apply_assumption -exfalso -symm)
                    refine lwp_cut (t := ⟨bdT B.length, bdH S T X q0 q1 q2 q3 B v, 17⟩) ?_ ?_
                    · repeat first | refine lwp_seq fun K hK => ?_ | (with_reducible refine gA ?_; apply_assumption -exfalso -symm) | refine Stp.h ?_ | refine gF rfl ?_ | refine gG rfl ?_ | refine gM hC rfl ⟨⟩ ?_
                      refine lwp_condS hC rfl sd ?_ ?_ <;> intro hb
                      · have hlen : S.length ≤ X.length := by omega
                        clear hb
                        repeat first | refine lwp_seq fun K hK => ?_ | (with_reducible refine gA ?_; apply_assumption -exfalso -symm) | refine Stp.h ?_ | refine gF rfl ?_ | refine gG rfl ?_ | refine gM hC rfl sd ?_
                        refine lwp_loop (fun k : Nat => ⟨(91, i64 k) :: (90, i64 S.length) :: (89, .sl 17 S.length) :: (12, .sl 18 k) :: bdT B.length, (18, .row 3 k 1 (.ints .i64 (othL S T X k))) :: (17, .ro S.length 1 (.ints .u8 ((X.drop 0).take (S.length - 0)))) :: bdH S T X q0 q1 q2 q3 B v, 19⟩) (fun k => k ≤ S.length) (fun k => S.length - k) 0 ⟨?_, sub_intro hm [(0, some 0), (1, some 1), (2, some 2), (3, some 3), (4, some 4), (5, some 5), (6, some 6), (9, some 9), (10, some 10), (17, some 17), (18, none)] rfl ?_⟩ ?_
                        · exact Nat.zero_le _
                        · simp only [Int.toNat_natCast]
                          exact sd
                        · rintro k hk
                          have hkk : ((k : Int)).toNat = k := Int.toNat_natCast k
                          repeat first | refine lwp_seq fun K hK => ?_ | (with_reducible refine gA ?_; apply_assumption -exfalso -symm) | refine Stp.h ?_ | refine gF rfl ?_ | refine gG rfl ?_ | refine gM hC rfl sd ?_
                          refine lwp_condS hC rfl sd ?_ ?_ <;> intro hb
                          · have hk2 : k < S.length := by omega
                            have hx := HXB.out k
                            have hxe : ((X.drop 0).take (S.length - 0)).getD k 0 = X.getD k 0 := by
                              rw [List.drop_zero, Nat.sub_zero, List.getD_eq_getElem?_getD, List.getElem?_take_of_lt hk2, ← List.getD_eq_getElem?_getD]
                            have hos : othL S T X (k + 1) = othL S T X k ++ [modI T.length (X.getD k 0)] := by rw [← hxe]; rfl
                            have hxl : ((X.drop 0).take (S.length - 0)).length = S.length := by simp; omega
                            have hmi := modI_in T.length hx
                            have hmd : modI T.length (X.getD k 0) = (X.getD k 0).tmod ((T.length : Int) + 1) - 1 := rfl
                            rw [hmd] at hmi hos
                            have HOS := Lib.hid hos
                            have HXE := Lib.hid hxe
                            clear hb hos hxe hmd
                            repeat first | refine lwp_seq fun K hK => ?_ | (with_reducible refine gA ?_; apply_assumption -exfalso -symm) | refine Stp.h ?_ | refine gF rfl ?_ | refine gG rfl ?_
                            (refine lwp_region hC ⟨[], [], []⟩ (told0 _ _) rfl ?_ ?_; rotate_left 1)
                            · repeat first | refine lwp_seq fun K hK => ?_ | (with_reducible refine gA ?_; apply_assumption -exfalso -symm) | refine Stp.h ?_ | refine gF rfl ?_ | refine gG rfl ?_
                              rw [hkk, HXE.out]
                              (refine lwp_region hC ⟨[], [], []⟩ (told0 _ _) rfl ?_ ?_; rotate_left 1)
                              · repeat first | refine lwp_seq fun K hK => ?_ | (with_reducible refine gA ?_; apply_assumption -exfalso -symm) | refine Stp.h ?_ | refine gF rfl ?_ | refine gG rfl ?_ | refine gM hC rfl sd ?_
                                refine gA ⟨k + 1, ?_, ?_, sub_intro hm [(0, some 0), (1, some 1), (2, some 2), (3, some 3), (4, some 4), (5, some 5), (6, some 6), (9, some 9), (10, some 10), (17, some 17), (18, some 20)] rfl ?_⟩
                                · omega
                                · omega
                                · rw [HOS.out]
                                  exact sd
                              · exact sd
                            · rw [hkk]
                              exact sd
                          · obtain rfl : k = S.length := by omega
                            have hml := othL_len S T X S.length
                            obtain ⟨M, hM⟩ : ∃ M, othL S T X S.length = M := ⟨_, rfl⟩
                            rw [hM] at hml ⊢
                            clear hb
                            repeat first | refine lwp_seq fun K hK => ?_ | (with_reducible refine gA ?_; apply_assumption -exfalso -symm) | refine Stp.h ?_ | refine gF rfl ?_ | refine gG rfl ?_ | refine gM hC rfl sd ?_
                            (refine lwp_region hC ⟨[], [], [(1, Own_i S T [(0, some 2), (1, some 3)]), (3, CheckP_i S T M [(0, some 19), (1, some 20), (2, some 18)])]⟩ (told1 _ (by rw [hP]; exact (calls_cons (Own_s _ _ _ (by omega) (by omega)) (calls_cons (CheckP_s _ _ _ _ (by omega) (by omega) (by omega)) calls_nil)))) rfl ?_ ?_; rotate_left 1)
                            · by_cases hp : planE S T M = 0
                              · have hfm := fine_of hp
                                have hbm := HM.out M hfm
                                have hpv := (fine_plan HZ.out hfm).2
                                rw [bet_not] at hbm
                                rw [hp, hpv]
                                obtain ⟨u, hu⟩ : ∃ u, valP S T M = u := ⟨_, rfl⟩
                                rw [hu] at hbm ⊢
                                clear hfm hpv hp hu
                                have hg : ¬ u.1 > v.1 := fun h => hbm (.inl h)
                                have hbm2 : ¬ (u.1 = v.1 ∧ u.2 < v.2) := fun h => hbm (.inr h)
                                clear hbm
                                repeat first | refine lwp_seq fun K hK => ?_ | (with_reducible refine gA ?_; apply_assumption -exfalso -symm) | refine Stp.h ?_ | refine gF rfl ?_ | refine gG rfl ?_ | refine gM hC rfl ⟨⟩ ?_
                                (refine lwp_region hC ⟨[(2, { b := some true }), (8, { b := some false })], [], []⟩ (told0 _ _) rfl ?_ ?_; rotate_left 1)
                                · repeat first | refine lwp_seq fun K hK => ?_ | (with_reducible refine gA ?_; apply_assumption -exfalso -symm) | refine Stp.h ?_ | refine gF rfl ?_ | refine gG rfl ?_ | refine gM hC rfl ⟨⟩ ?_
                                  refine lwp_condS hC rfl sd ?_ ?_ <;> intro hb
                                  · exfalso
                                    rcases (by simpa using hb : v.1 < u.1 ∨ u.1 = v.1 ∧ u.2 < v.2) with h | h
                                    · exact hg h
                                    · exact hbm2 h
                                  · repeat first | refine lwp_seq fun K hK => ?_ | (with_reducible refine gA ?_; apply_assumption -exfalso -symm) | refine Stp.h ?_ | refine gF rfl ?_ | refine gG rfl ?_ | refine gM hC rfl sd ?_
                                    refine gA (sub_intro hm [(0, some 0), (1, some 1), (2, some 2), (3, some 3), (4, some 4), (5, some 5), (6, some 6), (9, some 9), (10, some 10)] rfl ?_)
                                    exact sd
                                · by_cases hq : u.1 = v.1
                                  · rw [hq]
                                    simp [AllL, All, hg]
                                  · simp [AllL, All, hq, hg]
                              · repeat first | refine lwp_seq fun K hK => ?_ | (with_reducible refine gA ?_; apply_assumption -exfalso -symm) | refine Stp.h ?_ | refine gF rfl ?_ | refine gG rfl ?_ | refine gM hC rfl ⟨⟩ ?_
                                (refine lwp_region hC ⟨[(2, { b := some false }), (3, { g := some false }), (4, { g := some false }), (5, { g := some false }), (6, { g := some false }), (7, { g := some false }), (8, { g := some false }), (21, { g := some false })], [], []⟩ (told0 _ _) rfl ?_ ?_; rotate_left 1)
                                · repeat first | refine lwp_seq fun K hK => ?_ | (with_reducible refine gA ?_; apply_assumption -exfalso -symm) | refine Stp.h ?_ | refine gF rfl ?_ | refine gG rfl ?_ | refine gM hC rfl ⟨⟩ ?_
                                  refine lwp_condS hC rfl sd ?_ ?_ <;> intro hb
                                  · exfalso; simp_all
                                  · repeat first | refine lwp_seq fun K hK => ?_ | (with_reducible refine gA ?_; apply_assumption -exfalso -symm) | refine Stp.h ?_ | refine gF rfl ?_ | refine gG rfl ?_ | refine gM hC rfl sd ?_
                                    refine gA (sub_intro hm [(0, some 0), (1, some 1), (2, some 2), (3, some 3), (4, some 4), (5, some 5), (6, some 6), (9, some 9), (10, some 10)] rfl ?_)
                                    exact sd
                                · simp [AllL, All, *]
                            · exact sd
                      · repeat first | refine lwp_seq fun K hK => ?_ | (with_reducible refine gA ?_; apply_assumption -exfalso -symm) | refine Stp.h ?_ | refine gF rfl ?_ | refine gG rfl ?_ | refine gM hC rfl sd ?_
                        refine gA (sub_intro hm [(0, some 0), (1, some 1), (2, some 2), (3, some 3), (4, some 4), (5, some 5), (6, some 6), (9, some 9), (10, some 10)] rfl ?_)
                        exact sd
                    · repeat first | refine lwp_seq fun K hK => ?_ | (with_reducible refine gA ?_; apply_assumption -exfalso -symm) | refine Stp.h ?_ | refine gF rfl ?_ | refine gG rfl ?_ | refine gM hC rfl sd ?_
                      refine lwp_loop (fun k : Nat => ⟨(140, i64 k) :: (139, i64 T.length) :: (17, .sl 17 k) :: bdT B.length, (17, .row 82 k 2 (z2C (prL [q0, q1, q2, q3] k))) :: bdH S T X q0 q1 q2 q3 B v, 18⟩) (fun k => k ≤ T.length) (fun k => T.length - k) 0 ⟨?_, sub_intro hm [(0, some 0), (1, some 1), (2, some 2), (3, some 3), (4, some 4), (5, some 5), (6, some 6), (9, some 9), (10, some 10), (17, none)] rfl ?_⟩ ?_
                      · exact Nat.zero_le _
                      · exact sd
                      · rintro k hk
                        repeat first | refine lwp_seq fun K hK => ?_ | (with_reducible refine gA ?_; apply_assumption -exfalso -symm) | refine Stp.h ?_ | refine gF rfl ?_ | refine gG rfl ?_ | refine gM hC rfl sd ?_
                        refine lwp_condS hC rfl sd ?_ ?_ <;> intro hb
                        · have hk2 : k < T.length := by omega
                          have hk5 : k = 0 ∨ k = 1 ∨ k = 2 ∨ k = 3 ∨ k = 4 := by omega
                          clear hb
                          rcases hk5 with rfl | rfl | rfl | rfl | rfl
                          · repeat first | refine lwp_seq fun K hK => ?_ | (with_reducible refine gA ?_; apply_assumption -exfalso -symm) | refine Stp.h ?_ | refine gF rfl ?_ | refine gG rfl ?_ | refine gM hC rfl sd ?_
                            (refine lwp_region hC ⟨[], [], [(6, RLow_i q0 4)]⟩ (told1 _ (by rw [hP]; exact (calls_cons (RLow_s _ _ (by omega) (by omega)) calls_nil))) rfl ?_ ?_; rotate_left 1)
                            · repeat first | refine lwp_seq fun K hK => ?_ | (with_reducible refine gA ?_; apply_assumption -exfalso -symm) | refine Stp.h ?_ | refine gF rfl ?_ | refine gG rfl ?_ | refine gM hC rfl sd ?_
                              refine gA ⟨1, ?_, ?_, sub_intro hm [(0, some 0), (1, some 1), (2, some 2), (3, some 3), (4, some 4), (5, some 5), (6, some 6), (9, some 9), (10, some 10), (17, some 19)] rfl ?_⟩
                              · omega
                              · omega
                              · have hs := z2C_snoc (prL [q0, q1, q2, q3] 0) (lowZ q0)
                                have hp : prL [q0, q1, q2, q3] 1 = prL [q0, q1, q2, q3] 0 ++ [lowZ q0] := prL_snoc _ _
                                rw [hp]
                                exact sd
                            · exact sd
                          · repeat first | refine lwp_seq fun K hK => ?_ | (with_reducible refine gA ?_; apply_assumption -exfalso -symm) | refine Stp.h ?_ | refine gF rfl ?_ | refine gG rfl ?_ | refine gM hC rfl sd ?_
                            (refine lwp_region hC ⟨[], [], [(6, RLow_i q1 4)]⟩ (told1 _ (by rw [hP]; exact (calls_cons (RLow_s _ _ (by omega) (by omega)) calls_nil))) rfl ?_ ?_; rotate_left 1)
                            · repeat first | refine lwp_seq fun K hK => ?_ | (with_reducible refine gA ?_; apply_assumption -exfalso -symm) | refine Stp.h ?_ | refine gF rfl ?_ | refine gG rfl ?_ | refine gM hC rfl sd ?_
                              refine gA ⟨2, ?_, ?_, sub_intro hm [(0, some 0), (1, some 1), (2, some 2), (3, some 3), (4, some 4), (5, some 5), (6, some 6), (9, some 9), (10, some 10), (17, some 19)] rfl ?_⟩
                              · omega
                              · omega
                              · have hs := z2C_snoc (prL [q0, q1, q2, q3] 1) (lowZ q1)
                                have hp : prL [q0, q1, q2, q3] 2 = prL [q0, q1, q2, q3] 1 ++ [lowZ q1] := prL_snoc _ _
                                rw [hp]
                                exact sd
                            · exact sd
                          · repeat first | refine lwp_seq fun K hK => ?_ | (with_reducible refine gA ?_; apply_assumption -exfalso -symm) | refine Stp.h ?_ | refine gF rfl ?_ | refine gG rfl ?_ | refine gM hC rfl sd ?_
                            (refine lwp_region hC ⟨[], [], [(6, RLow_i q2 4)]⟩ (told1 _ (by rw [hP]; exact (calls_cons (RLow_s _ _ (by omega) (by omega)) calls_nil))) rfl ?_ ?_; rotate_left 1)
                            · repeat first | refine lwp_seq fun K hK => ?_ | (with_reducible refine gA ?_; apply_assumption -exfalso -symm) | refine Stp.h ?_ | refine gF rfl ?_ | refine gG rfl ?_ | refine gM hC rfl sd ?_
                              refine gA ⟨3, ?_, ?_, sub_intro hm [(0, some 0), (1, some 1), (2, some 2), (3, some 3), (4, some 4), (5, some 5), (6, some 6), (9, some 9), (10, some 10), (17, some 19)] rfl ?_⟩
                              · omega
                              · omega
                              · have hs := z2C_snoc (prL [q0, q1, q2, q3] 2) (lowZ q2)
                                have hp : prL [q0, q1, q2, q3] 3 = prL [q0, q1, q2, q3] 2 ++ [lowZ q2] := prL_snoc _ _
                                rw [hp]
                                exact sd
                            · exact sd
                          · repeat first | refine lwp_seq fun K hK => ?_ | (with_reducible refine gA ?_; apply_assumption -exfalso -symm) | refine Stp.h ?_ | refine gF rfl ?_ | refine gG rfl ?_ | refine gM hC rfl sd ?_
                            (refine lwp_region hC ⟨[], [], [(6, RLow_i q3 4)]⟩ (told1 _ (by rw [hP]; exact (calls_cons (RLow_s _ _ (by omega) (by omega)) calls_nil))) rfl ?_ ?_; rotate_left 1)
                            · repeat first | refine lwp_seq fun K hK => ?_ | (with_reducible refine gA ?_; apply_assumption -exfalso -symm) | refine Stp.h ?_ | refine gF rfl ?_ | refine gG rfl ?_ | refine gM hC rfl sd ?_
                              refine gA ⟨4, ?_, ?_, sub_intro hm [(0, some 0), (1, some 1), (2, some 2), (3, some 3), (4, some 4), (5, some 5), (6, some 6), (9, some 9), (10, some 10), (17, some 19)] rfl ?_⟩
                              · omega
                              · omega
                              · have hs := z2C_snoc (prL [q0, q1, q2, q3] 3) (lowZ q3)
                                have hp : prL [q0, q1, q2, q3] 4 = prL [q0, q1, q2, q3] 3 ++ [lowZ q3] := prL_snoc _ _
                                rw [hp]
                                exact sd
                            · exact sd
                          · repeat first | refine lwp_seq fun K hK => ?_ | (with_reducible refine gA ?_; apply_assumption -exfalso -symm) | refine Stp.h ?_ | refine gF rfl ?_ | refine gG rfl ?_ | refine gM hC rfl sd ?_
                            (refine lwp_region hC ⟨[], [], [(6, RLow_i q0 4)]⟩ (told1 _ (by rw [hP]; exact (calls_cons (RLow_s _ _ (by omega) (by omega)) calls_nil))) rfl ?_ ?_; rotate_left 1)
                            · repeat first | refine lwp_seq fun K hK => ?_ | (with_reducible refine gA ?_; apply_assumption -exfalso -symm) | refine Stp.h ?_ | refine gF rfl ?_ | refine gG rfl ?_ | refine gM hC rfl sd ?_
                              refine gA ⟨5, ?_, ?_, sub_intro hm [(0, some 0), (1, some 1), (2, some 2), (3, some 3), (4, some 4), (5, some 5), (6, some 6), (9, some 9), (10, some 10), (17, some 19)] rfl ?_⟩
                              · omega
                              · omega
                              · have hs := z2C_snoc (prL [q0, q1, q2, q3] 4) (lowZ q0)
                                have hp : prL [q0, q1, q2, q3] 5 = prL [q0, q1, q2, q3] 4 ++ [lowZ q0] := prL_snoc _ _
                                rw [hp]
                                exact sd
                            · exact sd
                        · obtain rfl : k = T.length := by omega
                          clear hb
                          have hbe := prL_ok (Q := [q0, q1, q2, q3]) (quarters h0 h1 h2 h3) HZ.out
                          have hbv := bound_val hbe HF.out
                          have hb2 : (bndS S T (prL [q0, q1, q2, q3] T.length)).2 = 0 := by unfold bndS; rw [if_pos hbe]
                          have hv1 : v.1 = valV S B B.length := by rw [← HVE.out]; rfl
                          rw [← hv1] at hbv
                          have hll := prL_len [q0, q1, q2, q3] T.length
                          obtain ⟨L, hL⟩ : ∃ L, prL [q0, q1, q2, q3] T.length = L := ⟨_, rfl⟩
                          rw [hL] at hbv hb2 hll ⊢
                          clear hbe hv1 hL
                          repeat first | refine lwp_seq fun K hK => ?_ | (with_reducible refine gA ?_; apply_assumption -exfalso -symm) | refine Stp.h ?_ | refine gF rfl ?_ | refine gG rfl ?_ | refine gM hC rfl sd ?_
                          (refine lwp_region hC ⟨[], [], [(1, Own_i S T [(0, some 2), (1, some 3)]), (3, Bnd_i S T L [(0, some 18), (1, some 19), (2, some 17)])]⟩ (told1 _ (by rw [hP]; exact (calls_cons (Own_s _ _ _ (by omega) (by omega)) (calls_cons (Bnd_s _ _ _ _ (by omega) (by omega) (by omega)) calls_nil)))) rfl ?_ ?_; rotate_left 1)
                          · rw [hb2]
                            obtain ⟨bn, hbn⟩ : ∃ bn, (bndS S T L).1 = bn := ⟨_, rfl⟩
                            rw [hbn] at hbv ⊢
                            repeat first | refine lwp_seq fun K hK => ?_ | (with_reducible refine gA ?_; apply_assumption -exfalso -symm) | refine Stp.h ?_ | refine gF rfl ?_ | refine gG rfl ?_ | refine gM hC rfl ⟨⟩ ?_
                            (refine lwp_region hC ⟨[], [], [(1, Own_i S T [(0, some 2), (1, some 3)]), (2, LateP_i S T [(0, some 20), (1, some 21)])]⟩ (told1 _ (by rw [hP]; exact (calls_cons (Own_s _ _ _ (by omega) (by omega)) (calls_cons (LateP_s _ _ _ (by omega) (by omega)) calls_nil)))) rfl ?_ ?_; rotate_left 1)
                            · rw [E3.out, HZ.out]
                              have hlt := lateL_len S T S.length
                              have hlm := fun k h => @lateL_mem S T S.length k h
                              have hlh := fun i => @lateL_has S T i S.length
                              obtain ⟨LT, hLT⟩ : ∃ LT, lateL S T S.length = LT := ⟨_, rfl⟩
                              rw [hLT] at hlt hlm hlh ⊢
                              have HLM := Lib.hid hlm
                              have HLH := Lib.hid hlh
                              clear hlm hlh
                              repeat first | refine lwp_seq fun K hK => ?_ | (with_reducible refine gA ?_; apply_assumption -exfalso -symm) | refine Stp.h ?_ | refine gF rfl ?_ | refine gG rfl ?_ | refine gM hC rfl ⟨⟩ ?_
                              (refine lwp_region hC ⟨[(4, { b := some false })], [], []⟩ (told0 _ _) rfl ?_ ?_; rotate_left 1)
                              · repeat first | refine lwp_seq fun K hK => ?_ | (with_reducible refine gA ?_; apply_assumption -exfalso -symm) | refine Stp.h ?_ | refine gF rfl ?_ | refine gG rfl ?_ | refine gM hC rfl ⟨⟩ ?_
                                refine lwp_condS hC rfl sd ?_ ?_ <;> intro hb
                                · exfalso; simp_all; omega
                                · clear hb
                                  repeat first | refine lwp_seq fun K hK => ?_ | (with_reducible refine gA ?_; apply_assumption -exfalso -symm) | refine Stp.h ?_ | refine gF rfl ?_ | refine gG rfl ?_
                                  refine lwp_sub (t := ⟨(21, .sl 17 LT.length) :: bdT B.length, (17, .row 128 LT.length 2 (reaC LT)) :: bdH S T X q0 q1 q2 q3 B v, 18⟩) (sub_intro hm [(0, some 0), (1, some 1), (2, some 2), (3, some 3), (4, some 4), (5, some 5), (6, some 6), (9, some 9), (10, some 10), (17, some 22)] rfl ?_) ?_
                                  · exact sd
                                  · repeat first | refine lwp_seq fun K hK => ?_ | (with_reducible refine gA ?_; apply_assumption -exfalso -symm) | refine Stp.h ?_ | refine gF rfl ?_ | refine gG rfl ?_
                                    (refine lwp_region hC ⟨[(0, { b := some false })], [], []⟩ (told0 _ _) rfl ?_ ?_; rotate_left 1)
                                    · repeat first | refine lwp_seq fun K hK => ?_ | (with_reducible refine gA ?_; apply_assumption -exfalso -symm) | refine Stp.h ?_ | refine gF rfl ?_ | refine gG rfl ?_ | refine gM hC rfl sd ?_
                                      refine lwp_loop (fun k : Nat => ⟨(179, i64 k) :: (178, i64 LT.length) :: (177, .sl 17 LT.length) :: (23, .mp 18) :: bdT B.length, (18, .obj (.iset (iS LT k))) :: (17, .row 128 LT.length 2 (reaC LT)) :: bdH S T X q0 q1 q2 q3 B v, 19⟩) (fun k => k ≤ LT.length) (fun k => LT.length - k) 0 ⟨?_, sub_intro hm [(0, some 0), (1, some 1), (2, some 2), (3, some 3), (4, some 4), (5, some 5), (6, some 6), (9, some 9), (10, some 10), (17, some 17), (18, some 18)] rfl ?_⟩ ?_
                                      · exact Nat.zero_le _
                                      · exact sd
                                      · rintro k hk
                                        have hkk : ((k : Int)).toNat = k := Int.toNat_natCast k
                                        repeat first | refine lwp_seq fun K hK => ?_ | (with_reducible refine gA ?_; apply_assumption -exfalso -symm) | refine Stp.h ?_ | refine gF rfl ?_ | refine gG rfl ?_ | refine gM hC rfl sd ?_
                                        refine lwp_condS hC rfl sd ?_ ?_ <;> intro hb
                                        · have hk2 : k < LT.length := by omega
                                          obtain ⟨i, hi, he, hfi⟩ := HLM.out k hk2
                                          have hbi := late_none HB.out HF.out hi hfi
                                          have his : iS LT (k + 1) = setI (iS LT k) i := by rw [← he]; rfl
                                          have HIS := Lib.hid his
                                          have hii : ((i : Int)).toNat = i := Int.toNat_natCast i
                                          have HBI := Lib.hid hbi
                                          have HEE := Lib.hid he
                                          clear hfi his he hbi hb
                                          repeat first | refine lwp_seq fun K hK => ?_ | (with_reducible refine gA ?_; apply_assumption -exfalso -symm) | refine Stp.h ?_ | refine gF rfl ?_ | refine gG rfl ?_
                                          (refine lwp_region hC ⟨[], [], []⟩ (told0 _ _) rfl ?_ ?_; rotate_left 1)
                                          · repeat first | refine lwp_seq fun K hK => ?_ | (with_reducible refine gA ?_; apply_assumption -exfalso -symm) | refine Stp.h ?_ | refine gF rfl ?_ | refine gG rfl ?_
                                            rw [hkk, HEE.out]
                                            (refine lwp_region hC ⟨[(3, { b := some false }), (10, { b := some false })], [], []⟩ (told0 _ _) rfl ?_ ?_; rotate_left 1)
                                            · rw [hii, HBI.out]
                                              repeat first | refine lwp_seq fun K hK => ?_ | (with_reducible refine gA ?_; apply_assumption -exfalso -symm) | refine Stp.h ?_ | refine gF rfl ?_ | refine gG rfl ?_ | refine gM hC rfl ⟨⟩ ?_
                                              refine lwp_condS hC rfl sd ?_ ?_ <;> intro hb
                                              · exfalso; simp at hb
                                              · clear hb
                                                repeat first | refine lwp_seq fun K hK => ?_ | (with_reducible refine gA ?_; apply_assumption -exfalso -symm) | refine Stp.h ?_ | refine gF rfl ?_ | refine gG rfl ?_ | refine gM hC rfl sd ?_
                                                refine gA ⟨k + 1, ?_, ?_, sub_intro hm [(0, some 0), (1, some 1), (2, some 2), (3, some 3), (4, some 4), (5, some 5), (6, some 6), (9, some 9), (10, some 10), (17, some 17), (18, some 18)] rfl ?_⟩
                                                · omega
                                                · omega
                                                · rw [HIS.out]
                                                  exact sd
                                            · exact sd
                                          · rw [hkk]
                                            exact sd
                                        · obtain rfl : k = LT.length := by omega
                                          clear hb
                                          have hmem := fun i => (iS_mem LT i).trans (HLH.out i)
                                          obtain ⟨IS, hIS⟩ : ∃ IS, iS LT LT.length = IS := ⟨_, rfl⟩
                                          rw [hIS] at hmem ⊢
                                          have HME := Lib.hid hmem
                                          clear hmem
                                          repeat first | refine lwp_seq fun K hK => ?_ | (with_reducible refine gA ?_; apply_assumption -exfalso -symm) | refine Stp.h ?_ | refine gF rfl ?_ | refine gG rfl ?_ | refine gM hC rfl sd ?_
                                          refine lwp_loop (fun i : Nat => ⟨(208, i64 i) :: (207, i64 S.length) :: (206, .sl 2 S.length) :: (23, .mp 18) :: bdT B.length, (18, .obj (.iset IS)) :: bdH S T X q0 q1 q2 q3 B v, 19⟩) (fun i => i ≤ S.length) (fun i => S.length - i) 0 ⟨?_, sub_intro hm [(0, some 0), (1, some 1), (2, some 2), (3, some 3), (4, some 4), (5, some 5), (6, some 6), (9, some 9), (10, some 10), (18, some 18)] rfl ?_⟩ ?_
                                          · exact Nat.zero_le _
                                          · exact sd
                                          · rintro i hi
                                            have hii : ((i : Int)).toNat = i := Int.toNat_natCast i
                                            repeat first | refine lwp_seq fun K hK => ?_ | (with_reducible refine gA ?_; apply_assumption -exfalso -symm) | refine Stp.h ?_ | refine gF rfl ?_ | refine gG rfl ?_ | refine gM hC rfl sd ?_
                                            refine lwp_condS hC rfl sd ?_ ?_ <;> intro hb
                                            · have hi2 : i < S.length := by omega
                                              clear hb
                                              repeat first | refine lwp_seq fun K hK => ?_ | (with_reducible refine gA ?_; apply_assumption -exfalso -symm) | refine Stp.h ?_ | refine gF rfl ?_ | refine gG rfl ?_ | refine gM hC rfl sd ?_
                                              rw [hii]
                                              have ho := alone_off HZ.out hi2
                                              have hl1 := alone_one HZ.out hi2
                                              have hlate := alone_late HZ.out hi2
                                              have hval := alone_val HZ.out hi2
                                              have hme := HME.out i
                                              obtain ⟨s, hse⟩ : ∃ s, S.getD i secD = s := ⟨_, rfl⟩
                                              rw [hse] at ho hl1 hlate hval ⊢
                                              have a1 : planEr [s] T = bestP [s] T := if_pos ho
                                              have a2 : planVr [s] T = valP [s] T (bestP [s] T) := if_pos ho
                                              obtain ⟨A, hA⟩ : ∃ A, bestP [s] T = A := ⟨_, rfl⟩
                                              rw [hA] at hl1 hlate hval a1 a2
                                              obtain ⟨a, hae⟩ : ∃ a, valP [s] T A = a := ⟨_, rfl⟩
                                              rw [hae] at hval a2
                                              have A1 := Lib.hid a1
                                              have A2 := Lib.hid a2
                                              have AO := Lib.hid ho
                                              have AL := Lib.hid hlate
                                              have AV' := Lib.hid hval
                                              have AM := Lib.hid hme
                                              clear a1 a2 ho hlate hval hme
                                              have hsc : (secC [s]).cells = (Cont.exp [.lit (.string s.name), i64 s.dl, i64 s.wk, i64 s.bl, i64 s.vl]).cells := by rw [secC_cells]; rfl
                                              repeat first | refine lwp_seq fun K hK => ?_ | (with_reducible refine gA ?_; apply_assumption -exfalso -symm) | refine Stp.h ?_ | refine gF rfl ?_ | refine gG rfl ?_ | refine gM hC rfl sd ?_
                                              (refine lwp_region hC ⟨[], [], [(5, Own_i [s] T [(0, some 21), (1, some 3)]), (6, PlanF_i [s] T [(0, some 22), (1, some 23)])]⟩ (told1 _ (by rw [hP]; exact (calls_cons (Own_s _ _ _ (by simp) (by omega)) (calls_cons (PlanF_s _ _ _ (by simp) (by omega)) calls_nil)))) rfl ?_ ?_; rotate_left 1)
                                              · rw [A1.out, A2.out, AO.out, hl1]
                                                repeat first | refine lwp_seq fun K hK => ?_ | (with_reducible refine gA ?_; apply_assumption -exfalso -symm) | refine Stp.h ?_ | refine gF rfl ?_ | refine gG rfl ?_ | refine gM hC rfl ⟨⟩ ?_
                                                obtain ⟨x, rfl⟩ := List.length_eq_one_iff.1 hl1
                                                by_cases hmi : memI IS i = true
                                                · have hfi := ((AM.out).1 hmi).2
                                                  have hq : x = -1 := AL.out hfi
                                                  clear hii
                                                  (refine lwp_region hC ⟨[(2, { b := some false }), (7, { b := some false }), (11, { b := some true, g := some true }), (18, { b := some false }), (23, { b := some false, g := some true }), (24, { g := some false }), (25, { g := some false }), (26, { g := some false }), (28, { b := some false, g := some true }), (29, { g := some false }), (30, { g := some false }), (31, { g := some false }), (32, { g := some false }), (33, { g := some false }), (39, { g := some false })], [], []⟩ (told0 _ _) rfl ?_ ?_; rotate_left 1)
                                                  · repeat first | refine lwp_seq fun K hK => ?_ | (with_reducible refine gA ?_; apply_assumption -exfalso -symm) | refine Stp.h ?_ | refine gF rfl ?_ | refine gG rfl ?_ | refine gM hC rfl ⟨⟩ ?_
                                                    refine lwp_condS hC rfl sd ?_ ?_ <;> intro hb
                                                    · exfalso; simp_all
                                                    · clear hb
                                                      repeat first | refine lwp_seq fun K hK => ?_ | (with_reducible refine gA ?_; apply_assumption -exfalso -symm) | refine Stp.h ?_ | refine gF rfl ?_ | refine gG rfl ?_ | refine gM hC rfl sd ?_
                                                      refine gA ⟨i + 1, ?_, ?_, sub_intro hm [(0, some 0), (1, some 1), (2, some 2), (3, some 3), (4, some 4), (5, some 5), (6, some 6), (9, some 9), (10, some 10), (18, some 18)] rfl ?_⟩
                                                      · omega
                                                      · omega
                                                      · exact sd
                                                  · simp [AllL, All, *]
                                                · have hft : fitN S T i T.length = true := by
                                                    cases e : fitN S T i T.length with
                                                    | true => rfl
                                                    | false => exact absurd (AM.out.2 ⟨hi2, e⟩) hmi
                                                  have hmi : memI IS i = false := by simpa using hmi
                                                  clear hii
                                                  by_cases hv : 0 < s.vl
                                                  · have hq := AV'.out hft hv
                                                    have hq1 : 0 ≤ x := hq.1
                                                    have hq2 := hq.2
                                                    clear hq
                                                    (refine lwp_region hC ⟨[(2, { b := some false }), (7, { b := some false }), (11, { b := some false, g := some true }), (12, { g := some false }), (13, { g := some false }), (14, { g := some false }), (15, { g := some false }), (18, { b := some false }), (23, { b := some true, g := some true }), (28, { b := some true, g := some true }), (33, { b := some false, g := some true })], [], []⟩ (told0 _ _) rfl ?_ ?_; rotate_left 1)
                                                    · repeat first | refine lwp_seq fun K hK => ?_ | (with_reducible refine gA ?_; apply_assumption -exfalso -symm) | refine Stp.h ?_ | refine gF rfl ?_ | refine gG rfl ?_ | refine gM hC rfl ⟨⟩ ?_
                                                      refine lwp_condS hC rfl sd ?_ ?_ <;> intro hb
                                                      · exfalso; simp_all
                                                      · clear hb
                                                        repeat first | refine lwp_seq fun K hK => ?_ | (with_reducible refine gA ?_; apply_assumption -exfalso -symm) | refine Stp.h ?_ | refine gF rfl ?_ | refine gG rfl ?_ | refine gM hC rfl sd ?_
                                                        refine gA ⟨i + 1, ?_, ?_, sub_intro hm [(0, some 0), (1, some 1), (2, some 2), (3, some 3), (4, some 4), (5, some 5), (6, some 6), (9, some 9), (10, some 10), (18, some 18)] rfl ?_⟩
                                                        · omega
                                                        · omega
                                                        · exact sd
                                                    · simp [AllL, All, *]
                                                  · (refine lwp_region hC ⟨[(2, { b := some false }), (7, { b := some false }), (11, { b := some false, g := some true }), (12, { g := some false }), (13, { g := some false }), (14, { g := some false }), (15, { g := some false }), (18, { b := some false }), (23, { b := some true, g := some true }), (28, { b := some false, g := some true }), (29, { g := some false }), (30, { g := some false }), (31, { g := some false }), (32, { g := some false }), (33, { g := some false }), (39, { g := some false })], [], []⟩ (told0 _ _) rfl ?_ ?_; rotate_left 1)
                                                    · repeat first | refine lwp_seq fun K hK => ?_ | (with_reducible refine gA ?_; apply_assumption -exfalso -symm) | refine Stp.h ?_ | refine gF rfl ?_ | refine gG rfl ?_ | refine gM hC rfl ⟨⟩ ?_
                                                      refine lwp_condS hC rfl sd ?_ ?_ <;> intro hb
                                                      · exfalso; simp_all
                                                      · clear hb
                                                        repeat first | refine lwp_seq fun K hK => ?_ | (with_reducible refine gA ?_; apply_assumption -exfalso -symm) | refine Stp.h ?_ | refine gF rfl ?_ | refine gG rfl ?_ | refine gM hC rfl sd ?_
                                                        refine gA ⟨i + 1, ?_, ?_, sub_intro hm [(0, some 0), (1, some 1), (2, some 2), (3, some 3), (4, some 4), (5, some 5), (6, some 6), (9, some 9), (10, some 10), (18, some 18)] rfl ?_⟩
                                                        · omega
                                                        · omega
                                                        · exact sd
                                                    · simp [AllL, All, *]
                                              · exact sd
                                            · obtain rfl : i = S.length := by omega
                                              clear hb
                                              repeat first | refine lwp_seq fun K hK => ?_ | (with_reducible refine gA ?_; apply_assumption -exfalso -symm) | refine Stp.h ?_ | refine gF rfl ?_ | refine gG rfl ?_ | refine gM hC rfl sd ?_
                                              refine lwp_condS hC rfl sd ?_ ?_ <;> intro hb
                                              · have ht3 : T.length < 3 := by omega
                                                clear hb
                                                repeat first | refine lwp_seq fun K hK => ?_ | (with_reducible refine gA ?_; apply_assumption -exfalso -symm) | refine Stp.h ?_ | refine gF rfl ?_ | refine gG rfl ?_ | refine gM hC rfl sd ?_
                                                (refine lwp_region hC ⟨[], [], [(1, Own_i S T [(0, some 2), (1, some 3)]), (2, Tld_i S T [(0, some 19), (1, some 20)])]⟩ (told1 _ (by rw [hP]; exact (calls_cons (Own_s _ _ _ (by omega) (by omega)) (calls_cons (Tld_s _ _ _ (by omega) (by omega)) calls_nil)))) rfl ?_ ?_; rotate_left 1)
                                                · repeat first | refine lwp_seq fun K hK => ?_ | (with_reducible refine gA ?_; apply_assumption -exfalso -symm) | refine Stp.h ?_ | refine gF rfl ?_ | refine gG rfl ?_ | refine gM hC rfl sd ?_
                                                  refine lwp_loop (fun k : Nat => ⟨(277, i64 k) :: (276, i64 T.length) :: (275, .sl 22 T.length) :: (32, i64 (dayL T k)) :: (31, .ptr 23 0 0 0) :: bdT B.length, (23, .blk 25 [.sl 21 S.length, .sl 22 T.length]) :: (22, .row 133 T.length 4 (shfC T)) :: (21, .row 130 S.length 5 (secC S)) :: bdH S T X q0 q1 q2 q3 B v, 25⟩) (fun k => k ≤ T.length) (fun k => T.length - k) 0 ⟨?_, sub_intro hm [(0, some 0), (1, some 1), (2, some 2), (3, some 3), (4, some 4), (5, some 5), (6, some 6), (9, some 9), (10, some 10), (21, some 21), (22, some 22), (23, some 23)] rfl ?_⟩ ?_
                                                  · exact Nat.zero_le _
                                                  · exact sd
                                                  · rintro k hk
                                                    have hkk : ((k : Int)).toNat = k := Int.toNat_natCast k
                                                    repeat first | refine lwp_seq fun K hK => ?_ | (with_reducible refine gA ?_; apply_assumption -exfalso -symm) | refine Stp.h ?_ | refine gF rfl ?_ | refine gG rfl ?_ | refine gM hC rfl sd ?_
                                                    refine lwp_condS hC rfl sd ?_ ?_ <;> intro hb
                                                    · have hk2 : k < T.length := by omega
                                                      have hdy : dayL T (k + 1) = (T.getD k shfD).day := rfl
                                                      have HDY := Lib.hid hdy
                                                      clear hb hdy
                                                      repeat first | refine lwp_seq fun K hK => ?_ | (with_reducible refine gA ?_; apply_assumption -exfalso -symm) | refine Stp.h ?_ | refine gF rfl ?_ | refine gG rfl ?_ | refine gM hC rfl sd ?_
                                                      refine gA ⟨k + 1, ?_, ?_, sub_intro hm [(0, some 0), (1, some 1), (2, some 2), (3, some 3), (4, some 4), (5, some 5), (6, some 6), (9, some 9), (10, some 10), (21, some 21), (22, some 22), (23, some 23)] rfl ?_⟩
                                                      · omega
                                                      · omega
                                                      · rw [hkk, HDY.out]
                                                        exact sd
                                                    · obtain rfl : k = T.length := by omega
                                                      clear hb
                                                      have hof := more_off HZ.out ht3 h3 h2
                                                      have hmv := more_val HZ.out hof ⟨h3.1, show (0 : Int) ≤ 10 * q2 by omega⟩
                                                      have hsn := shfC_snoc T (⟨dayL T T.length, q3, 10 * q2, 0⟩ : Shf)
                                                      have hl' : (T ++ [(⟨dayL T T.length, q3, 10 * q2, 0⟩ : Shf)]).length = T.length + 1 := by simp
                                                      have hdy := HB.out.day
                                                      have hdl : 0 ≤ dayL T T.length ∧ dayL T T.length ≤ 100000 := by
                                                        cases T.length with
                                                        | zero => exact ⟨Int.le_refl 0, show (0 : Int) ≤ 100000 by omega⟩
                                                        | succ k => exact hdy k
                                                      rw [HBE.out, HVE.out] at hmv
                                                      obtain ⟨T', hT'⟩ : ∃ T', T ++ [(⟨dayL T T.length, q3, 10 * q2, 0⟩ : Shf)] = T' := ⟨_, rfl⟩
                                                      rw [hT'] at hof hmv hsn hl'
                                                      have g1 : planEr S T' = bestP S T' := if_pos hof
                                                      have g2 : planVr S T' = valP S T' (bestP S T') := if_pos hof
                                                      obtain ⟨w, hw⟩ : ∃ w, valP S T' (bestP S T') = w := ⟨_, rfl⟩
                                                      rw [hw] at hmv g2
                                                      have G1 := Lib.hid g1
                                                      have G2 := Lib.hid g2
                                                      have GO' := Lib.hid hof
                                                      have GS := Lib.hid hsn
                                                      obtain ⟨dy, hdye⟩ : ∃ dy, dayL T T.length = dy := ⟨_, rfl⟩
                                                      rw [hdye] at hdl GS ⊢
                                                      clear g1 g2 hof hsn hdy hw hT'
                                                      repeat first | refine lwp_seq fun K hK => ?_ | (with_reducible refine gA ?_; apply_assumption -exfalso -symm) | refine Stp.h ?_ | refine gF rfl ?_ | refine gG rfl ?_
                                                      (refine lwp_region hC ⟨[], [], []⟩ (told0 _ _) rfl ?_ ?_; rotate_left 1)
                                                      · repeat first | refine lwp_seq fun K hK => ?_ | (with_reducible refine gA ?_; apply_assumption -exfalso -symm) | refine Stp.h ?_ | refine gF rfl ?_ | refine gG rfl ?_
                                                        refine lwp_sub (t := ⟨(31, .ptr 23 0 0 0) :: bdT B.length, (23, .blk 25 [.sl 21 S.length, .sl 26 T'.length]) :: (26, .row 133 T'.length 4 (shfC T')) :: (21, .row 130 S.length 5 (secC S)) :: bdH S T X q0 q1 q2 q3 B v, 27⟩) (sub_intro hm [(0, some 0), (1, some 1), (2, some 2), (3, some 3), (4, some 4), (5, some 5), (6, some 6), (9, some 9), (10, some 10), (21, some 21), (23, some 23), (26, some 26)] rfl ?_) ?_
                                                        · have hs := GS.out
                                                          have hs2 : (shfC T').cells = (catC (shfC T) (Cont.exp [i64 dy, i64 q3, i64 (10 * q2), i64 0])).cells := by rw [catC_cells]; exact hs
                                                          clear hs
                                                          exact sd
                                                        · repeat first | refine lwp_seq fun K hK => ?_ | (with_reducible refine gA ?_; apply_assumption -exfalso -symm) | refine Stp.h ?_ | refine gF rfl ?_ | refine gG rfl ?_
                                                          (refine lwp_region hC ⟨[], [], [(1, Own_i S T' [(0, some 21), (1, some 26)]), (2, PlanF_i S T' [(0, some 27), (1, some 28)])]⟩ (told1 _ (by rw [hP]; exact (calls_cons (Own_s _ _ _ (by omega) (by omega)) (calls_cons (PlanF_s _ _ _ (by omega) (by omega)) calls_nil)))) rfl ?_ ?_; rotate_left 1)
                                                          · rw [G1.out, G2.out, GO'.out]
                                                            repeat first | refine lwp_seq fun K hK => ?_ | (with_reducible refine gA ?_; apply_assumption -exfalso -symm) | refine Stp.h ?_ | refine gF rfl ?_ | refine gG rfl ?_ | refine gM hC rfl ⟨⟩ ?_
                                                            (refine lwp_region hC ⟨[(2, { b := some false })], [], []⟩ (told0 _ _) rfl ?_ ?_; rotate_left 1)
                                                            · repeat first | refine lwp_seq fun K hK => ?_ | (with_reducible refine gA ?_; apply_assumption -exfalso -symm) | refine Stp.h ?_ | refine gF rfl ?_ | refine gG rfl ?_ | refine gM hC rfl ⟨⟩ ?_
                                                              refine lwp_condS hC rfl sd ?_ ?_ <;> intro hb
                                                              · exfalso; simp_all; omega
                                                              · clear hb
                                                                repeat first | refine lwp_seq fun K hK => ?_ | (with_reducible refine gA ?_; apply_assumption -exfalso -symm) | refine Stp.h ?_ | refine gF rfl ?_ | refine gG rfl ?_ | refine gM hC rfl ⟨⟩ ?_
                                                                (refine lwp_region hC ⟨[], [], [(0, Awake_i)]⟩ (told1 _ (by rw [hP]; exact (calls_cons (Awake_s) calls_nil))) rfl ?_ ?_; rotate_left 1)
                                                                · repeat first | refine lwp_seq fun K hK => ?_ | (with_reducible refine gA ?_; apply_assumption -exfalso -symm) | refine Stp.h ?_ | refine gF rfl ?_ | refine gG rfl ?_ | refine gM hC rfl sd ?_
                                                                  (refine end_intro (by first | exact .inr rfl | exact .inl rfl) [] rfl ?_)
                                                                  exact ⟨rfl, trivial⟩
                                                                · exact sd
                                                            · exact sd
                                                          · exact sd
                                                      · exact sd
                                                · exact sd
                                              · repeat first | refine lwp_seq fun K hK => ?_ | (with_reducible refine gA ?_; apply_assumption -exfalso -symm) | refine Stp.h ?_ | refine gF rfl ?_ | refine gG rfl ?_ | refine gM hC rfl sd ?_
                                                (refine lwp_region hC ⟨[], [], [(0, Awake_i)]⟩ (told1 _ (by rw [hP]; exact (calls_cons (Awake_s) calls_nil))) rfl ?_ ?_; rotate_left 1)
                                                · repeat first | refine lwp_seq fun K hK => ?_ | (with_reducible refine gA ?_; apply_assumption -exfalso -symm) | refine Stp.h ?_ | refine gF rfl ?_ | refine gG rfl ?_ | refine gM hC rfl sd ?_
                                                  (refine end_intro (by first | exact .inr rfl | exact .inl rfl) [] rfl ?_)
                                                  exact ⟨rfl, trivial⟩
                                                · exact sd
                                    · exact sd
                              · exact sd
                            · exact sd
                          · exact sd
                · simp [AllL, All, *]
              · exact sd
          · exact sd
      · refine lwp_condS hC rfl sd ?_ ?_ <;> intro hb
        · repeat first | refine lwp_seq fun K hK => ?_ | (with_reducible refine gA ?_; apply_assumption -exfalso -symm) | refine Stp.h ?_ | refine gF rfl ?_ | refine gG rfl ?_ | refine gM hC rfl ⟨⟩ ?_
          (refine lwp_region hC ⟨[], [], [(0, Awake_i)]⟩ (told1 _ (by rw [hP]; exact (calls_cons (Awake_s) calls_nil))) rfl ?_ ?_; rotate_left 1)
          · repeat first | refine lwp_seq fun K hK => ?_ | (with_reducible refine gA ?_; apply_assumption -exfalso -symm) | refine Stp.h ?_ | refine gF rfl ?_ | refine gG rfl ?_ | refine gM hC rfl sd ?_
            (refine end_intro (by first | exact .inr rfl | exact .inl rfl) [] rfl ?_)
            exact ⟨rfl, trivial⟩
          · exact sd
        · exfalso; simp_all
    · simp [AllL, All, *]
  · (refine lwp_region hC ⟨[(3, { b := some true }), (4, { g := some false }), (5, { g := some false }), (6, { g := some false })], [], [(1, ShortO_i S T [(0, some 2), (1, some 3)])]⟩ (told1 _ (by rw [hP]; exact (calls_cons (ShortO_s _ _ _ hS hT) calls_nil))) rfl ?_ ?_; rotate_left 1)
    · repeat first | refine lwp_seq fun K hK => ?_ | (with_reducible refine gA ?_; apply_assumption -exfalso -symm) | refine Stp.h ?_ | refine gF rfl ?_ | refine gG rfl ?_ | refine gM hC rfl ⟨⟩ ?_
      refine lwp_condS hC rfl sd ?_ ?_ <;> intro hb
      · repeat first | refine lwp_seq fun K hK => ?_ | (with_reducible refine gA ?_; apply_assumption -exfalso -symm) | refine Stp.h ?_ | refine gF rfl ?_ | refine gG rfl ?_ | refine gM hC rfl ⟨⟩ ?_
        (refine lwp_region hC ⟨[], [], [(0, Awake_i)]⟩ (told1 _ (by rw [hP]; exact (calls_cons (Awake_s) calls_nil))) rfl ?_ ?_; rotate_left 1)
        · repeat first | refine lwp_seq fun K hK => ?_ | (with_reducible refine gA ?_; apply_assumption -exfalso -symm) | refine Stp.h ?_ | refine gF rfl ?_ | refine gG rfl ?_ | refine gM hC rfl sd ?_
          (refine end_intro (by first | exact .inr rfl | exact .inl rfl) [] rfl ?_)
          exact ⟨rfl, trivial⟩
        · exact sd
      · exact absurd hb (by decide)
    · simp [AllL, All, *]

end Go.Proofs.YtccddhoeampdjaaGreatDoor
