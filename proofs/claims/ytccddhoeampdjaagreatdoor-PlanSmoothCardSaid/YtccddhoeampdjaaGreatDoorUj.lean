/- Chapter 9: lifts that keep the rules: CheckLifts and Lifted, the program's. -/
import Derived.Test.YtccddhoeampdjaaGreatDoorUe
set_option linter.unusedVariables false
set_option linter.unusedSimpArgs false
namespace Go.Proofs.YtccddhoeampdjaaGreatDoor
open Go.RowKit Go.Sym

theorem rangeL_all {lo hi : Int} : ∀ {l : List Int}, (∀ x ∈ l, lo ≤ x ∧ x ≤ hi) → firstS (rangeL lo hi l) = 0
  | [], _ => rfl
  | a :: l, h => by
    have ih := rangeL_all (l := l) fun x hx => h x (List.mem_cons_of_mem _ hx)
    have h1 : withinS a lo hi = 0 := withinS_zero.2 (h a List.mem_cons_self)
    show firstS (withinS a lo hi :: rangeL lo hi l) = 0
    simp only [firstS, if_pos h1, ih]
theorem feasD_near {most : Nat} {ramp : Int} : ∀ {cs : List (Int × Int)} {b : Int} {L : List Int}, feasD most ramp cs b L → (∀ k, k < L.length → nearB ramp (L.getD k 0) ((b :: L).getD k 0) = true) ∧ (b :: L).getD L.length 0 ≤ ramp
  | [], b, [], h => ⟨fun k hk => absurd hk (Nat.not_lt_zero _), h⟩
  | [], _, x :: L, h => h.elim
  | c :: r, _, [], h => h.elim
  | c :: r, b, x :: L, ⟨_, hn, hf⟩ => by
    obtain ⟨h1, h2⟩ := feasD_near hf
    refine ⟨fun k hk => ?_, ?_⟩
    · rcases k with _ | k
      · exact hn
      · exact h1 k (by simpa using hk)
    · exact h2
/-- What lifts that keep the rules give: -/
structure Keeps (lv tg L : List Int) (m r : Int) : Prop where
  z : desE lv tg m r = 0
  f : feasD m.toNat r (lv.zip tg) 0 L
structure KeepsB (lv tg L : List Int) (m r : Int) : Prop where
  vl : lvOk lv
  vt : lvOk tg
  lf : lfOk L
  lenT : lv.length = tg.length
  lenL : L.length = lv.length
  near : ∀ k, k < L.length → ¬ (if befD L k - L.getD k 0 > L.getD k 0 - befD L k then befD L k - L.getD k 0 else L.getD k 0 - befD L k) > r
  last : befD L L.length ≤ r
  bef : ∀ k, 0 ≤ befD L k ∧ befD L k ≤ 12
  rng : firstS (rangeL 0 m L) = 0
theorem keepsB {lv tg L : List Int} {m r : Int} (h : Keeps lv tg L m r) : KeepsB lv tg L m r := by
  obtain ⟨hL, hT, h0, hlen, hM, hR⟩ := desE_ok h.z
  obtain ⟨h1, h2⟩ := feasD_all h.f
  obtain ⟨h3, h4⟩ := feasD_near h.f
  rw [List.length_zip] at h1
  have hx : ∀ x ∈ L, 0 ≤ x ∧ x ≤ m := fun x hx => by have := h2 x hx; omega
  refine ⟨hL, hT, lfOk_of fun x hx' => by have := hx x hx'; omega, hlen, by omega, fun k hk => ?_, h4, ?_, rangeL_all hx⟩
  · have := (near_max r (L.getD k 0) (befD L k)).2 (h3 k hk)
    omega
  · exact lfOk_of (L := 0 :: L) fun x hx' => by
      rcases List.mem_cons.1 hx' with rfl | hx'
      · decide
      · have := hx x hx'; omega
def CLf_i (lv tg L : List Int) (m r : Int) (σ : Ren) : Inst := { f := 69, hin := threeIn lv tg L, args := [.sl 0 lv.length, .sl 1 tg.length, .sl 2 L.length, .agg [i64 m, i64 r]], hout := [], ret := .tup [i64 (costL (lv.zip tg) L), i64 0], σ := σ }
set_option maxRecDepth 20000 in
set_option maxHeartbeats 4000000 in
theorem CLf_s (lv tg L : List Int) (m r : Int) (σ : Ren) (h : Keeps lv tg L m r) : (CLf_i lv tg L m r σ).ok Tryz.prog := by
  have hB := keepsB h
  have hl24 := hB.vl.1
  have hLT := hB.lenT
  have hLL := hB.lenL
  have hE := costN_costL (lv := lv) (tg := tg) (L := L) (by omega) (by omega)
  have hI := costN_in hB.vl hB.vt hB.lf
  have hD := Des_s lv tg m r [(0, some 0), (1, some 1)] (by omega) (by omega)
  unfold Des_i at hD
  rw [h.z] at hD
  have hR := PLifts_s m L [(0, some 2)] (by omega)
  unfold PLifts_i at hR
  rw [hB.rng] at hR
  have hW := PWhen_s (decide ((L.length : Int) ≠ lv.length)) 2
  unfold PWhen_i at hW
  have hw0 : whenS (decide ((L.length : Int) ≠ lv.length)) 2 = 0 := (whenS_zero (by decide)).2 (decide_eq_false (by omega))
  rw [hw0] at hW
  have hf0 : firstS [0, 0, 0] = 0 := rfl
  have HE := Lib.hid hE
  have HI := Lib.hid hI
  have HD := Lib.hid hD
  have HR := Lib.hid hR
  have HW := Lib.hid hW
  have HB := Lib.hid hB
  clear hE hI hD hR hW hB h hw0
  unfold CLf_i
  rw [← HE.out]
  unfold threeIn Inst.ok; dsimp only; refine spec_of_body (tys := tys) 3 Tryz.func69 (by kernel_rfl) rfl tys_ok rfl (Nat.le_of_ble_eq_true rfl) (fun _ _ h => (by cases h)) fun F hP hm hC hrd => ?_; conv => whnf
  repeat first | refine lwp_seq fun K hK => ?_ | (with_reducible refine gA ?_; apply_assumption -exfalso -symm) | refine Stp.h ?_ | refine gF rfl ?_ | refine gG rfl ?_ | refine gM hC rfl sd ?_
  (refine lwp_drawn hC (by rw [hP]; exact mixed) ⟨[], [], [(3, { f := 109, hin := twoIn lv tg, args := [.sl 0 lv.length, .sl 1 tg.length, .agg [i64 m, i64 r]], hout := [], ret := i64 0, σ := [(0, some 0), (1, some 1)] }), (9, { f := 95, hin := [], args := [bl (decide ((L.length : Int) ≠ lv.length)), i64 2], hout := [], ret := i64 0, σ := [] }), (13, { f := 113, hin := [(0, .ro L.length 1 (.ints .i64 L))], args := [.sl 0 L.length, i64 m], hout := [], ret := i64 0, σ := [(0, some 2)] }), (15, PFirst_i [0, 0, 0] [(0, some 4)])]⟩ (told1 _ (by rw [hP]; exact (calls_cons (HD.out) (calls_cons (HW.out) (calls_cons (HR.out) (calls_cons (PFirst_s _ _ (by simp)) calls_nil)))))) [0, 0, 0, 7, 0, 16, 0, 64, 240, 511, 0, 0, 2048, 8191, 16383, 32767, 65535] 13 rfl ?_ ?_; rotate_left 1)
  · rw [hf0]
    repeat first | refine lwp_seq fun K hK => ?_ | (with_reducible refine gA ?_; apply_assumption -exfalso -symm) | refine Stp.h ?_ | refine gF rfl ?_ | refine gG rfl ?_ | refine gM hC rfl sd ?_
    refine lwp_condS hC rfl sd ?_ ?_ <;> intro hb
    · exact absurd rfl hb
    · clear hb
      repeat first | refine lwp_seq fun K hK => ?_ | (with_reducible refine gA ?_; apply_assumption -exfalso -symm) | refine Stp.h ?_ | refine gF rfl ?_ | refine gG rfl ?_ | refine gM hC rfl sd ?_
      refine lwp_loop (fun k : Nat => ⟨[(36, i64 k), (35, i64 L.length), (34, .sl 2 L.length), (11, i64 (costN lv tg L k)), (12, i64 (befD L k)), (7, .ptr 3 0 0 0), (0, .sl 0 lv.length), (1, .sl 1 tg.length)], [(3, .blk 75 [i64 m, i64 r]), (0, .ro lv.length 1 (.ints .i64 lv)), (1, .ro tg.length 1 (.ints .i64 tg)), (2, .ro L.length 1 (.ints .i64 L))], 4⟩) (fun k => k ≤ L.length) (fun k => L.length - k) 0 ⟨?_, sub_intro hm [(0, some 0), (1, some 1), (2, some 2), (3, some 3)] rfl ?_⟩ ?_
      · exact Nat.zero_le _
      · have e1 : costN lv tg L 0 = 0 := rfl
        have e2 : befD L 0 = 0 := rfl
        exact sd
      · rintro k hk
        have hkk : ((k : Int)).toNat = k := Int.toNat_natCast k
        have hbk := HB.out.bef k
        have hik := HI.out k
        repeat first | refine lwp_seq fun K hK => ?_ | (with_reducible refine gA ?_; apply_assumption -exfalso -symm) | refine Stp.h ?_ | refine gF rfl ?_ | refine gG rfl ?_ | refine gM hC rfl sd ?_
        refine lwp_condS hC rfl sd ?_ ?_ <;> intro hb
        · have hk2 : k < L.length := by omega
          have hlk := HB.out.lf k
          clear hb
          repeat first | refine lwp_seq fun K hK => ?_ | (with_reducible refine gA ?_; apply_assumption -exfalso -symm) | refine Stp.h ?_ | refine gF rfl ?_ | refine gG rfl ?_ | refine gM hC rfl sd ?_
          refine lwp_condS hC rfl sd ?_ ?_ <;> intro hb
          · rw [hkk] at hb
            exact absurd hb (HB.out.near k hk2)
          · clear hb
            have hc := HI.out (k + 1)
            have e : costN lv tg L (k + 1) = costN lv tg L k + missI (lv.getD k 0) (tg.getD k 0) (L.getD k 0) := rfl
            have e2 : befD L (k + 1) = L.getD k 0 := rfl
            repeat first | refine lwp_seq fun K hK => ?_ | (with_reducible refine gA ?_; apply_assumption -exfalso -symm) | refine Stp.h ?_ | refine gF rfl ?_ | refine gG rfl ?_
            (refine lwp_drawn hC (by rw [hP]; exact mixed) ⟨[], [], [(10, Miss_i (lv.getD k 0) (tg.getD k 0) (L.getD k 0))]⟩ (told1 _ (by rw [hP]; exact (calls_cons (Miss_s _ _ _ (HB.out.vl.2 k) (HB.out.vt.2 k) (HB.out.lf k)) calls_nil))) [0, 0, 0, 6, 14, 0, 0, 96, 224, 0, 1022, 2047, 4095] 11 rfl ?_ ?_; rotate_left 1)
            · rw [hkk]
              repeat first | refine lwp_seq fun K hK => ?_ | (with_reducible refine gA ?_; apply_assumption -exfalso -symm) | refine Stp.h ?_ | refine gF rfl ?_ | refine gG rfl ?_ | refine gM hC rfl sd ?_
              refine gA ⟨k + 1, ?_, ?_, sub_intro hm [(0, some 0), (1, some 1), (2, some 2), (3, some 3)] rfl ?_⟩
              · omega
              · omega
              · rw [e, e2]
                exact sd
            · rw [hkk]
              exact sd
        · obtain rfl : k = L.length := by omega
          clear hb
          have hla := HB.out.last
          repeat first | refine lwp_seq fun K hK => ?_ | (with_reducible refine gA ?_; apply_assumption -exfalso -symm) | refine Stp.h ?_ | refine gF rfl ?_ | refine gG rfl ?_ | refine gM hC rfl sd ?_
          refine lwp_condS hC rfl sd ?_ ?_ <;> intro hb
          · omega
          · clear hb
            repeat first | refine lwp_seq fun K hK => ?_ | (with_reducible refine gA ?_; apply_assumption -exfalso -symm) | refine Stp.h ?_ | refine gF rfl ?_ | refine gG rfl ?_ | refine gM hC rfl sd ?_
            (refine end_intro (by first | exact .inr rfl | exact .inl rfl) [] rfl ?_)
            exact ⟨rfl, rfl, trivial⟩
  · exact sd

def mixL (lv L : List Int) (k : Nat) : List Int := (List.range lv.length).map fun q => if q < k then lv.getD q 0 + L.getD q 0 else lv.getD q 0
theorem mixL_len (lv L : List Int) (k : Nat) : (mixL lv L k).length = lv.length := by simp [mixL]
theorem mixL_at (lv L : List Int) {k q : Nat} (h : q < lv.length) : (mixL lv L k).getD q 0 = if q < k then lv.getD q 0 + L.getD q 0 else lv.getD q 0 := by
  simp [mixL, List.getD, h]
theorem mixL_zero (lv L : List Int) : mixL lv L 0 = lv := by
  refine List.ext_getElem (by rw [mixL_len]) fun q h1 h2 => ?_
  have h3 := mixL_at lv L (k := 0) h2
  rw [if_neg (Nat.not_lt_zero _), List.getD_eq_getElem?_getD, List.getD_eq_getElem?_getD, List.getElem?_eq_getElem h1, List.getElem?_eq_getElem h2] at h3
  simpa using h3
theorem mixL_step (lv L : List Int) {k : Nat} (h : k < lv.length) : (mixL lv L k).set k (lv.getD k 0 + L.getD k 0) = mixL lv L (k + 1) := by
  refine List.ext_getElem (by simp [mixL]) fun q h1 h2 => ?_
  rw [List.getElem_set]
  simp only [mixL, List.getElem_map, List.getElem_range]
  by_cases e : k = q
  · subst e
    rw [if_pos rfl, if_pos (by omega)]
  · rw [if_neg e]
    by_cases c : q < k
    · rw [if_pos c, if_pos (by omega)]
    · rw [if_neg c, if_neg (by omega)]
def Lfd_i (lv L : List Int) (σ : Ren) : Inst := { f := 70, hin := [(0, .ro lv.length 1 (.ints .i64 lv)), (1, .ro L.length 1 (.ints .i64 L))], args := [.sl 0 lv.length, .sl 1 L.length], hout := [(2, .row 3 lv.length 1 (.ints .i64 (mixL lv L lv.length)))], ret := .tup [.sl 2 lv.length, i64 0], σ := σ }
set_option maxRecDepth 20000 in
set_option maxHeartbeats 4000000 in
theorem Lfd_s (lv L : List Int) (σ : Ren) (hv : levE lv = 0) (hL : ∀ x ∈ L, 0 ≤ x ∧ x ≤ 12) (hlen : L.length = lv.length) : (Lfd_i lv L σ).ok Tryz.prog := by
  have hlo := lvOk_of hv
  have hl24 := hlo.1
  have hD := Lev_s lv [(0, some 0)] (by omega)
  unfold Lev_i at hD
  rw [hv] at hD
  have hR := PLifts_s 12 L [(0, some 1)] (by omega)
  unfold PLifts_i at hR
  rw [rangeL_all hL] at hR
  have hlf := lfOk_of hL
  have hW := PWhen_s (decide ((L.length : Int) ≠ lv.length)) 2
  unfold PWhen_i at hW
  have hw0 : whenS (decide ((L.length : Int) ≠ lv.length)) 2 = 0 := (whenS_zero (by decide)).2 (decide_eq_false (by omega))
  rw [hw0] at hW
  have hf0 : firstS [0, 0, 0] = 0 := rfl
  have HD := Lib.hid hD
  have HR := Lib.hid hR
  have HW := Lib.hid hW
  have HO := Lib.hid hlo
  have HF := Lib.hid hlf
  clear hD hR hW hv hL hw0 hlo hlf
  unfold Lfd_i Inst.ok; dsimp only; refine spec_of_body (tys := tys) 2 Tryz.func70 (by kernel_rfl) rfl tys_ok rfl (Nat.le_of_ble_eq_true rfl) (fun _ _ h => (by cases h)) fun F hP hm hC hrd => ?_; conv => whnf
  repeat first | refine lwp_seq fun K hK => ?_ | (with_reducible refine gA ?_; apply_assumption -exfalso -symm) | refine Stp.h ?_ | refine gF rfl ?_ | refine gG rfl ?_ | refine gM hC rfl sd ?_
  (refine lwp_region hC ⟨[], [], [(1, { f := 139, hin := [(0, .ro lv.length 1 (.ints .i64 lv))], args := [.sl 0 lv.length], hout := [], ret := i64 0, σ := [(0, some 0)] }), (7, { f := 95, hin := [], args := [bl (decide ((L.length : Int) ≠ lv.length)), i64 2], hout := [], ret := i64 0, σ := [] }), (9, { f := 113, hin := [(0, .ro L.length 1 (.ints .i64 L))], args := [.sl 0 L.length, i64 12], hout := [], ret := i64 0, σ := [(0, some 1)] }), (11, PFirst_i [0, 0, 0] [(0, some 2)])]⟩ (told1 _ (by rw [hP]; exact (calls_cons (HD.out) (calls_cons (HW.out) (calls_cons (HR.out) (calls_cons (PFirst_s _ _ (by simp)) calls_nil)))))) rfl ?_ ?_; rotate_left 1)
  · rw [hf0]
    repeat first | refine lwp_seq fun K hK => ?_ | (with_reducible refine gA ?_; apply_assumption -exfalso -symm) | refine Stp.h ?_ | refine gF rfl ?_ | refine gG rfl ?_ | refine gM hC rfl sd ?_
    refine lwp_condS hC rfl sd ?_ ?_ <;> intro hb
    · exact absurd rfl hb
    · clear hb
      repeat first | refine lwp_seq fun K hK => ?_ | (with_reducible refine gA ?_; apply_assumption -exfalso -symm) | refine Stp.h ?_ | refine gF rfl ?_ | refine gG rfl ?_ | refine gM hC rfl sd ?_
      refine lwp_loop (fun k : Nat => ⟨[(33, i64 k), (32, i64 L.length), (31, .sl 1 L.length), (7, .sl 2 lv.length)], [(2, .row 3 lv.length 1 (.ints .i64 (mixL lv L k))), (0, .ro lv.length 1 (.ints .i64 lv)), (1, .ro L.length 1 (.ints .i64 L))], 3⟩) (fun k => k ≤ L.length) (fun k => L.length - k) 0 ⟨?_, sub_intro hm [(0, some 0), (1, some 1), (2, some 3)] rfl ?_⟩ ?_
      · exact Nat.zero_le _
      · have e := mixL_zero lv L
        exact sd
      · rintro k hk
        have hkk : ((k : Int)).toNat = k := Int.toNat_natCast k
        repeat first | refine lwp_seq fun K hK => ?_ | (with_reducible refine gA ?_; apply_assumption -exfalso -symm) | refine Stp.h ?_ | refine gF rfl ?_ | refine gG rfl ?_ | refine gM hC rfl sd ?_
        refine lwp_condS hC rfl sd ?_ ?_ <;> intro hb
        · have hk2 : k < L.length := by omega
          have hlk := HF.out k
          have hvk := HO.out.2 k
          have e := mixL_step lv L (k := k) (by omega)
          have e2 := mixL_at lv L (k := k) (q := k) (by omega)
          rw [if_neg (by omega)] at e2
          have hml := mixL_len lv L k
          clear hb
          repeat first | refine lwp_seq fun K hK => ?_ | (with_reducible refine gA ?_; apply_assumption -exfalso -symm) | refine Stp.h ?_ | refine gF rfl ?_ | refine gG rfl ?_
          (refine lwp_region hC ⟨[], [], []⟩ (told0 _ _) rfl ?_ ?_; rotate_left 1)
          · rw [hkk]
            repeat first | refine lwp_seq fun K hK => ?_ | (with_reducible refine gA ?_; apply_assumption -exfalso -symm) | refine Stp.h ?_ | refine gF rfl ?_ | refine gG rfl ?_
            (refine lwp_region hC ⟨[], [], []⟩ (told0 _ _) rfl ?_ ?_; rotate_left 1)
            · rw [hkk, e2, e]
              repeat first | refine lwp_seq fun K hK => ?_ | (with_reducible refine gA ?_; apply_assumption -exfalso -symm) | refine Stp.h ?_ | refine gF rfl ?_ | refine gG rfl ?_ | refine gM hC rfl sd ?_
              refine gA ⟨k + 1, ?_, ?_, sub_intro hm [(0, some 0), (1, some 1), (2, some 2)] rfl ?_⟩
              · omega
              · omega
              · exact sd
            · rw [hkk, e2]
              exact sd
          · exact sd
        · obtain rfl : k = L.length := by omega
          clear hb
          rw [hlen]
          repeat first | refine lwp_seq fun K hK => ?_ | (with_reducible refine gA ?_; apply_assumption -exfalso -symm) | refine Stp.h ?_ | refine gF rfl ?_ | refine gG rfl ?_ | refine gM hC rfl sd ?_
          (refine end_intro (by first | exact .inr rfl | exact .inl rfl) [(2, some 2)] rfl ?_)
          exact sd
  · exact sd

end Go.Proofs.YtccddhoeampdjaaGreatDoor
