/- Chapter 9: the cost of a lift, the least of a row, the cost of lifts: contracts. -/
import Derived.Test.YtccddhoeampdjaaGreatDoorUc
import Derived.Test.YtccddhoeampdjaaGreatDoorUb
import Derived.Test.YtccddhoeampdjaaGreatDoorOj
set_option linter.unusedVariables false
set_option linter.unusedSimpArgs false
namespace Go.Proofs.YtccddhoeampdjaaGreatDoor
open Go.RowKit Go.Sym

theorem und13 : Tryz.prog.underlying 197 = some (.array 13 3) := by kernel_rfl
theorem undInt : Tryz.prog.underlying 3 = some (.int .i64) := by kernel_rfl
theorem infInt : ∃ i, Tryz.prog.info? 3 = some i ∧ i.size = 1 := Option.map_eq_some_iff.1 (show (Tryz.prog.info? 3).map (·.size) = some 1 by kernel_rfl)
/-- An element of an array of thirteen numbers. -/
def custI13 : Custom := ⟨fun o l => match o.op, l with
  | .index t _ _, [.agg av, .lit (.int .i64 n)] => match Nat.beq t 197 && Nat.beq av.length 13 && decide (0 ≤ n ∧ n < 13) with
    | true => nth av n.toNat
    | false => none
  | _, _ => none⟩
theorem custI13_ok : custI13.ok Tryz.prog := by
  intro o l r h ρ w e vs hd hv
  dsimp only [custI13] at h
  split at h
  · rename_i t x y av n ho
    split at h
    · rename_i ht
      simp only [Bool.and_eq_true] at ht
      obtain ⟨⟨ht1, _⟩, ht3⟩ := ht
      cases Nat.eq_of_beq_eq_true ht1
      have hn := of_decide_eq_true ht3
      simp only [AV.denL] at hd
      obtain ⟨v1, us1, g1, g2, rfl⟩ := listO_some hd
      obtain ⟨v2, us2, g3, g4, rfl⟩ := listO_some g2
      cases g4
      simp only [AV.den, Option.map_eq_some_iff, Option.some.injEq] at g1 g3
      obtain ⟨us, g5, rfl⟩ := g1
      subst g3
      rw [ho] at hv
      simp only [Op.operands, List.map_cons, List.map_nil, List.cons.injEq, and_true] at hv
      obtain ⟨e1, e2⟩ := hv
      obtain ⟨v, g6, g7⟩ := denL_at' g5 h
      refine ⟨v, g6, ?_⟩
      obtain ⟨i, hi1, hi2⟩ := infInt
      have hx : indexV Tryz.prog 197 (.agg us.toArray) (.int .i64 n) = some v := by
        unfold indexV
        rw [und13]
        dsimp only
        rw [hi1, decide_eq_true (show 0 ≤ n ∧ n < ((13 : Nat) : Int) by omega)]
        dsimp only
        unfold partV
        rw [undInt, hi1, hi2]
        simpa [isAggD] using g7
      have hrun := indexV_run hx w
      simp [execOp, ho, e1, e2, hrun, Result.andThen]
    · cases h
  · cases h

theorem miss_in {l t x : Int} (hl : -1000 ≤ l ∧ l ≤ 1000) (ht : -1000 ≤ t ∧ t ≤ 1000) (hx : 0 ≤ x ∧ x ≤ 12) : (0 ≤ (t - l - x) * (t - l - x) ∧ (t - l - x) * (t - l - x) ≤ 4048144) ∧ 0 ≤ missI l t x ∧ missI l t x ≤ 4048156 := by
  have h1 := missI_nn l t hx.1
  have h2 := mul_in (x := t - l - x) (y := t - l - x) (A := 2012) (B := 2012) (by omega) (by omega)
  have h3 := missI_nn l t (x := x) hx.1
  have h4 : 0 ≤ (t - l - x) * (t - l - x) := by
    rcases Int.le_total 0 (t - l - x) with h | h
    · exact Int.mul_nonneg h h
    · have := Int.mul_nonneg (show 0 ≤ -(t - l - x) by omega) (show 0 ≤ -(t - l - x) by omega)
      rwa [Int.neg_mul_neg] at this
  unfold missI at *
  omega
def Miss_i (l t x : Int) : Inst := { f := 110, hin := [], args := [i64 l, i64 t, i64 x], hout := [], ret := i64 (missI l t x), σ := [] }
theorem Miss_s (l t x : Int) (hl : -1000 ≤ l ∧ l ≤ 1000) (ht : -1000 ≤ t ∧ t ≤ 1000) (hx : 0 ≤ x ∧ x ≤ 12) : (Miss_i l t x).ok Tryz.prog := by
  have hm := (miss_in hl ht hx).1
  unfold Miss_i Inst.ok; dsimp only; refine spec_of_body (tys := tys) 0 Tryz.func110 (by kernel_rfl) rfl tys_ok rfl (Nat.le_of_ble_eq_true rfl) (fun _ _ h => (by cases h)) fun F hP hm hC hrd => ?_; conv => whnf
  repeat first | refine lwp_seq fun K hK => ?_ | (with_reducible refine gA ?_; apply_assumption -exfalso -symm) | refine Stp.h ?_ | refine gF rfl ?_ | refine gG rfl ?_ | refine gM hC rfl sd ?_
  (refine end_intro (by first | exact .inr rfl | exact .inl rfl) [] rfl ?_)
  exact ⟨rfl, trivial⟩

/-! The least of a row. -/
theorem near_max (ramp n b : Int) : (if b - n > n - b then b - n else n - b) ≤ ramp ↔ nearB ramp n b = true := by
  unfold nearB
  simp only [Bool.and_eq_true, decide_eq_true_eq]
  split <;> omega
theorem leastN_congr {f g : Int → Int} {near : Int → Bool} : ∀ {k : Nat}, (∀ m : Nat, m < k → f m = g m) → leastN f near k = leastN g near k
  | 0, _ => rfl
  | k + 1, h => by
    have ih := leastN_congr (k := k) (near := near) fun m hm => h m (by omega)
    simp only [leastN, ih, h k (by omega)]
theorem leastN_nn {f : Int → Int} {near : Int → Bool} : ∀ {k : Nat}, (∀ m : Nat, m < k → 0 ≤ f m) → 0 ≤ leastN f near k
  | 0, _ => by unfold leastN neverI; decide
  | k + 1, h => by
    have ih := leastN_nn (k := k) (near := near) fun m hm => h m (by omega)
    have h1 := h k (by omega)
    simp only [leastN]
    split
    · split <;> omega
    · exact ih
abbrev natF (f : Nat → Int) : Int → Int := fun x => f x.toNat
abbrev a13 (f : Nat → Int) : AV := .agg [i64 (f 0), i64 (f 1), i64 (f 2), i64 (f 3), i64 (f 4), i64 (f 5), i64 (f 6), i64 (f 7), i64 (f 8), i64 (f 9), i64 (f 10), i64 (f 11), i64 (f 12)]
def leastS (f : Nat → Int) (b ramp : Int) (k : Nat) : Int := leastN (natF f) (fun n => nearB ramp n b) k
theorem leastS_near {f : Nat → Int} {b ramp : Int} {k : Nat} (h : nearB ramp k b = true) : leastS f b ramp (k + 1) = if f k < leastS f b ramp k then f k else leastS f b ramp k := if_pos h
theorem leastS_far {f : Nat → Int} {b ramp : Int} {k : Nat} (h : ¬ nearB ramp k b = true) : leastS f b ramp (k + 1) = leastS f b ramp k := if_neg h
def Least_i (f : Nat → Int) (b ramp : Int) (σ : Ren) : Inst := { f := 111, hin := [], args := [a13 f, i64 b, i64 ramp, i64 1099511627776], hout := [], ret := i64 (leastS f b ramp 13), σ := σ }
set_option maxRecDepth 20000 in
set_option maxHeartbeats 4000000 in
theorem Least_s (f : Nat → Int) (b ramp : Int) (σ : Ren) (hb0 : 0 ≤ b ∧ b ≤ 12) : (Least_i f b ramp σ).ok Tryz.prog := by
  unfold Least_i Inst.ok; dsimp only; refine spec_of_body (tys := tys) 0 Tryz.func111 (by kernel_rfl) rfl tys_ok rfl (Nat.le_of_ble_eq_true rfl) (fun _ _ h => (by cases h)) fun F hP hm hC hrd => ?_; conv => whnf
  repeat first | refine lwp_seq fun K hK => ?_ | (with_reducible refine gA ?_; apply_assumption -exfalso -symm) | refine Stp.h ?_ | refine gF rfl ?_ | refine gG rfl ?_ | refine gM hC rfl sd ?_
  refine lwp_loop (fun k : Nat => ⟨[(14, i64 k), (13, a13 f), (9, i64 (leastS f b ramp k)), (1, i64 b), (2, i64 ramp)], [], 1⟩) (fun k => k ≤ 13) (fun k => 13 - k) 0 ⟨?_, sub_intro hm [] rfl ?_⟩ ?_
  · exact Nat.zero_le _
  · have e : leastS f b ramp 0 = 1099511627776 := rfl
    exact sd
  · rintro k hk
    repeat first | refine lwp_seq fun K hK => ?_ | (with_reducible refine gA ?_; apply_assumption -exfalso -symm) | refine Stp.h ?_ | refine gF rfl ?_ | refine gG rfl ?_ | refine gM hC rfl sd ?_
    refine lwp_condS hC rfl sd ?_ ?_ <;> intro hb
    · have hk2 : k < 13 := by omega
      clear hb
      have e1 := leastS_near (f := f) (b := b) (ramp := ramp) (k := k)
      have e2 := leastS_far (f := f) (b := b) (ramp := ramp) (k := k)
      have hnm := near_max ramp k b
      have E1 := Lib.hid e1
      have E2 := Lib.hid e2
      have HN := Lib.hid hnm
      clear e1 e2 hnm
      obtain ⟨j, hj⟩ : ∃ j, j = k + 1 := ⟨_, rfl⟩
      have hc : k = 0 ∨ k = 1 ∨ k = 2 ∨ k = 3 ∨ k = 4 ∨ k = 5 ∨ k = 6 ∨ k = 7 ∨ k = 8 ∨ k = 9 ∨ k = 10 ∨ k = 11 ∨ k = 12 := by omega
      rcases hc with rfl | rfl | rfl | rfl | rfl | rfl | rfl | rfl | rfl | rfl | rfl | rfl | rfl
      all_goals
        repeat first | refine lwp_seq fun K hK => ?_ | (with_reducible refine gA ?_; apply_assumption -exfalso -symm) | refine Stp.h ?_ | refine gF rfl ?_ | refine gG rfl ?_
        (refine lwp_region hC ⟨[], [(1, custI13)], []⟩ ⟨(fun p hp => by rcases List.mem_cons.1 hp with rfl | hp; rw [hP]; exact custI13_ok; cases hp), (fun _ h => (by cases h))⟩ rfl ?_ ?_; rotate_left 1)
        · repeat first | refine lwp_seq fun K hK => ?_ | (with_reducible refine gA ?_; apply_assumption -exfalso -symm) | refine Stp.h ?_ | refine gF rfl ?_ | refine gG rfl ?_ | refine gM hC rfl sd ?_
          refine lwp_condS hC rfl sd ?_ ?_ <;> intro hb
          · have ee := E1.out (HN.out.1 hb)
            clear hb
            repeat first | refine lwp_seq fun K hK => ?_ | (with_reducible refine gA ?_; apply_assumption -exfalso -symm) | refine Stp.h ?_ | refine gF rfl ?_ | refine gG rfl ?_ | refine gM hC rfl sd ?_
            refine gA ⟨j, ?_, ?_, sub_intro hm [] rfl ?_⟩
            · omega
            · omega
            · subst hj
              rw [ee]
              exact sd
          · have ee := E2.out (fun h => hb (HN.out.2 h))
            clear hb
            repeat first | refine lwp_seq fun K hK => ?_ | (with_reducible refine gA ?_; apply_assumption -exfalso -symm) | refine Stp.h ?_ | refine gF rfl ?_ | refine gG rfl ?_ | refine gM hC rfl sd ?_
            refine gA ⟨j, ?_, ?_, sub_intro hm [] rfl ?_⟩
            · omega
            · omega
            · subst hj
              rw [ee]
              exact sd
        · exact sd
    · obtain rfl : k = 13 := by omega
      clear hb
      repeat first | refine lwp_seq fun K hK => ?_ | (with_reducible refine gA ?_; apply_assumption -exfalso -symm) | refine Stp.h ?_ | refine gF rfl ?_ | refine gG rfl ?_ | refine gM hC rfl sd ?_
      (refine end_intro (by first | exact .inr rfl | exact .inl rfl) [] rfl ?_)
      exact ⟨rfl, trivial⟩

/-! The cost of lifts. -/
def costN (lv tg L : List Int) : Nat → Int
  | 0 => 0
  | k + 1 => costN lv tg L k + missI (lv.getD k 0) (tg.getD k 0) (L.getD k 0)
theorem costN_cons (a b x : Int) (lv tg L : List Int) : ∀ k, costN (a :: lv) (b :: tg) (x :: L) (k + 1) = missI a b x + costN lv tg L k
  | 0 => by simp [costN]
  | k + 1 => by
    have ih := costN_cons a b x lv tg L k
    show costN (a :: lv) (b :: tg) (x :: L) (k + 1) + _ = missI a b x + (costN lv tg L k + _)
    rw [ih]
    simp only [List.getD_cons_succ]
    omega
theorem costN_costL : ∀ {lv tg L : List Int}, L.length ≤ lv.length → L.length ≤ tg.length → costN lv tg L L.length = costL (lv.zip tg) L
  | lv, tg, [], _, _ => by cases h : lv.zip tg <;> rfl
  | [], tg, x :: L, h, _ => by simp at h
  | a :: lv, [], x :: L, _, h => by simp at h
  | a :: lv, b :: tg, x :: L, h1, h2 => by
    rw [List.length_cons, costN_cons, costN_costL (by simpa using h1) (by simpa using h2)]
    rfl
def lvOk (l : List Int) : Prop := l.length ≤ 24 ∧ ∀ k, -1000 ≤ l.getD k 0 ∧ l.getD k 0 ≤ 1000
def lfOk (L : List Int) : Prop := ∀ k, 0 ≤ L.getD k 0 ∧ L.getD k 0 ≤ 12
theorem lvOk_of {l : List Int} (h : levE l = 0) : lvOk l := by
  obtain ⟨_, h2, h3⟩ := levE_ok h
  refine ⟨h2, fun k => ?_⟩
  rw [List.getD_eq_getElem?_getD]
  cases e : l[k]? with
  | none => exact ⟨by decide, by decide⟩
  | some x => exact h3 x (List.mem_of_getElem? e)
theorem lfOk_of {L : List Int} (h : ∀ x ∈ L, 0 ≤ x ∧ x ≤ 12) : lfOk L := fun k => by
  rw [List.getD_eq_getElem?_getD]
  cases e : L[k]? with
  | none => exact ⟨by decide, by decide⟩
  | some x => exact h x (List.mem_of_getElem? e)
theorem costN_in {lv tg L : List Int} (h1 : lvOk lv) (h2 : lvOk tg) (h3 : lfOk L) : ∀ k : Nat, 0 ≤ costN lv tg L k ∧ costN lv tg L k ≤ k * 4048156
  | 0 => by simp [costN]
  | k + 1 => by
    have ih := costN_in h1 h2 h3 k
    have := (miss_in (h1.2 k) (h2.2 k) (h3 k)).2
    simp only [costN]
    omega
def threeIn (lv tg L : List Int) : List (Nat × Chunk) := [(0, .ro lv.length 1 (.ints .i64 lv)), (1, .ro tg.length 1 (.ints .i64 tg)), (2, .ro L.length 1 (.ints .i64 L))]
def RCost_i (lv tg L : List Int) (σ : Ren) : Inst := { f := 43, hin := threeIn lv tg L, args := [.sl 0 lv.length, .sl 1 tg.length, .sl 2 L.length], hout := [], ret := i64 (costL (lv.zip tg) L), σ := σ }
theorem RCost_s (lv tg L : List Int) (σ : Ren) (h1 : lvOk lv) (h2 : lvOk tg) (h3 : lfOk L) (hl : L.length ≤ lv.length) (ht : L.length ≤ tg.length) : (RCost_i lv tg L σ).ok Tryz.prog := by
  have h24 := h1.1
  have hin := costN_in h1 h2 h3
  have hms := fun k => miss_in (h1.2 k) (h2.2 k) (h3 k)
  have hd := fun k => And.intro (h1.2 k) (And.intro (h2.2 k) (h3 k))
  have HI := Lib.hid hin
  have HM := Lib.hid hms
  have HD := Lib.hid hd
  clear hin hms hd h1 h2 h3
  have hE := costN_costL hl ht
  have HE := Lib.hid hE
  clear hE
  unfold RCost_i threeIn Inst.ok; dsimp only; refine spec_of_body (tys := tys) 3 Tryz.func43 (by kernel_rfl) rfl tys_ok rfl (Nat.le_of_ble_eq_true rfl) (fun _ _ h => (by cases h)) fun F hP hm hC hrd => ?_; conv => whnf
  repeat first | refine lwp_seq fun K hK => ?_ | (with_reducible refine gA ?_; apply_assumption -exfalso -symm) | refine Stp.h ?_ | refine gF rfl ?_ | refine gG rfl ?_ | refine gM hC rfl sd ?_
  refine lwp_loop (fun k : Nat => ⟨[(8, i64 k), (7, i64 (costN lv tg L k)), (0, .sl 0 lv.length), (1, .sl 1 tg.length), (2, .sl 2 L.length)], [(0, .ro lv.length 1 (.ints .i64 lv)), (1, .ro tg.length 1 (.ints .i64 tg)), (2, .ro L.length 1 (.ints .i64 L))], 3⟩) (fun k => k ≤ L.length) (fun k => L.length - k) 0 ⟨?_, sub_intro hm [(0, some 0), (1, some 1), (2, some 2)] rfl ?_⟩ ?_
  · exact Nat.zero_le _
  · have e : costN lv tg L 0 = 0 := rfl
    exact sd
  · rintro k hk
    have hkk : ((k : Int)).toNat = k := Int.toNat_natCast k
    repeat first | refine lwp_seq fun K hK => ?_ | (with_reducible refine gA ?_; apply_assumption -exfalso -symm) | refine Stp.h ?_ | refine gF rfl ?_ | refine gG rfl ?_ | refine gM hC rfl sd ?_
    refine lwp_condS hC rfl sd ?_ ?_ <;> intro hb
    · have hk2 : k < L.length := by omega
      have hi := HI.out k
      have hmq := (HM.out k).1
      obtain ⟨d1, d2, d3⟩ := HD.out k
      have e : costN lv tg L (k + 1) = costN lv tg L k + ((tg.getD k 0 - lv.getD k 0 - L.getD k 0) * (tg.getD k 0 - lv.getD k 0 - L.getD k 0) + L.getD k 0) := rfl
      clear hb
      repeat first | refine lwp_seq fun K hK => ?_ | (with_reducible refine gA ?_; apply_assumption -exfalso -symm) | refine Stp.h ?_ | refine gF rfl ?_ | refine gG rfl ?_
      (refine lwp_drawn hC (by rw [hP]; exact mixed) ⟨[], [], []⟩ (told0 _ _) [0, 0, 3, 7, 0, 0, 48, 112, 255, 0, 0, 1536, 3584, 8191, 16383] 13 rfl ?_ ?_; rotate_left 1)
      · rw [hkk]
        repeat first | refine lwp_seq fun K hK => ?_ | (with_reducible refine gA ?_; apply_assumption -exfalso -symm) | refine Stp.h ?_ | refine gF rfl ?_ | refine gG rfl ?_
        (refine lwp_region hC ⟨[], [], []⟩ (told0 _ _) rfl ?_ ?_; rotate_left 1)
        · rw [hkk]
          repeat first | refine lwp_seq fun K hK => ?_ | (with_reducible refine gA ?_; apply_assumption -exfalso -symm) | refine Stp.h ?_ | refine gF rfl ?_ | refine gG rfl ?_ | refine gM hC rfl sd ?_
          refine gA ⟨k + 1, ?_, ?_, sub_intro hm [(0, some 0), (1, some 1), (2, some 2)] rfl ?_⟩
          · omega
          · omega
          · rw [e]
            exact sd
        · rw [hkk]
          exact sd
      · rw [hkk]
        exact sd
    · obtain rfl : k = L.length := by omega
      clear hb
      repeat first | refine lwp_seq fun K hK => ?_ | (with_reducible refine gA ?_; apply_assumption -exfalso -symm) | refine Stp.h ?_ | refine gF rfl ?_ | refine gG rfl ?_ | refine gM hC rfl sd ?_
      (refine end_intro (by first | exact .inr rfl | exact .inl rfl) [] rfl ?_)
      rw [HE.out]
      exact ⟨rfl, trivial⟩

/-! The table. -/
section table
variable (most : Nat) (ramp : Int) (cs : List (Int × Int))
def cellT (q : Nat) : Int := restF most ramp (cs.drop (q / 13)) ((q % 13 : Nat) : Int)
def tabL (t a b : Nat) : List Int := (List.range ((cs.length + 1) * 13)).map fun q => if t ≤ q ∨ (a ≤ q ∧ q < b) then cellT most ramp cs q else 0
theorem tab_len (t a b : Nat) : (tabL most ramp cs t a b).length = (cs.length + 1) * 13 := by simp [tabL]
theorem tab_get (t a b q : Nat) (h : q < (cs.length + 1) * 13) : (tabL most ramp cs t a b).getD q 0 = if t ≤ q ∨ (a ≤ q ∧ q < b) then cellT most ramp cs q else 0 := by
  simp [tabL, List.getD, h]
theorem tab_ext {l : List Int} {t a b : Nat} (hl : l.length = (cs.length + 1) * 13) (h : ∀ q, q < (cs.length + 1) * 13 → l.getD q 0 = if t ≤ q ∨ (a ≤ q ∧ q < b) then cellT most ramp cs q else 0) : l = tabL most ramp cs t a b := by
  refine List.ext_getElem (by rw [hl, tab_len]) fun q h1 h2 => ?_
  have h3 := h q (by omega)
  rw [← tab_get most ramp cs t a b q (by omega)] at h3
  rw [List.getD_eq_getElem?_getD, List.getD_eq_getElem?_getD, List.getElem?_eq_getElem h1, List.getElem?_eq_getElem h2] at h3
  simpa using h3
theorem tab_zero : List.replicate ((cs.length + 1) * 13) 0 = tabL most ramp cs ((cs.length + 1) * 13) 0 0 := by
  refine tab_ext most ramp cs (by simp) fun q h => ?_
  rw [if_neg (by omega)]
  simp [List.getD, h]
theorem cell_at {i n : Nat} (hn : n < 13) : cellT most ramp cs (i * 13 + n) = restF most ramp (cs.drop i) (n : Int) := by
  unfold cellT
  rw [show (i * 13 + n) / 13 = i by omega, show (i * 13 + n) % 13 = n by omega]
theorem tab_row {r m t a b : Nat} (hm : m < 13) (hr : r ≤ cs.length) (ht : t ≤ r * 13) : (tabL most ramp cs t a b).getD (r * 13 + m) 0 = restF most ramp (cs.drop r) (m : Int) := by
  rw [tab_get _ _ _ _ _ _ _ (by omega), if_pos (by omega), cell_at most ramp cs hm]
theorem tab_set {i n : Nat} (hi : i ≤ cs.length) (hn : n < 13) {v : Int} (hv : v = restF most ramp (cs.drop i) (n : Int)) : (tabL most ramp cs ((i + 1) * 13) (i * 13) (i * 13 + n)).set (i * 13 + n) v = tabL most ramp cs ((i + 1) * 13) (i * 13) (i * 13 + (n + 1)) := by
  refine tab_ext most ramp cs (by rw [List.length_set, tab_len]) fun q h => ?_
  by_cases e : q = i * 13 + n
  · subst e
    rw [if_pos (by omega), cell_at most ramp cs hn, hv]
    rw [List.getD_eq_getElem?_getD, List.getElem?_set_self (by rw [tab_len]; exact h)]
    rfl
  · rw [List.getD_eq_getElem?_getD, List.getElem?_set_ne (fun c => e c.symm), ← List.getD_eq_getElem?_getD, tab_get _ _ _ _ _ _ _ h]
    by_cases c : (i + 1) * 13 ≤ q ∨ (i * 13 ≤ q ∧ q < i * 13 + n)
    · rw [if_pos c, if_pos (by omega)]
    · rw [if_neg c, if_neg (by omega)]
theorem tab_same {i n : Nat} (hi : i ≤ cs.length) (hn : n < 13) (hv : restF most ramp (cs.drop i) (n : Int) = 0) : tabL most ramp cs ((i + 1) * 13) (i * 13) (i * 13 + n) = tabL most ramp cs ((i + 1) * 13) (i * 13) (i * 13 + (n + 1)) := by
  refine tab_ext most ramp cs (by rw [tab_len]) fun q h => ?_
  rw [tab_get _ _ _ _ _ _ _ h]
  by_cases e : q = i * 13 + n
  · subst e
    rw [if_neg (by omega), if_pos (by omega), cell_at most ramp cs hn, hv]
  · by_cases c : (i + 1) * 13 ≤ q ∨ (i * 13 ≤ q ∧ q < i * 13 + n)
    · rw [if_pos c, if_pos (by omega)]
    · rw [if_neg c, if_neg (by omega)]
theorem tab_begin (i : Nat) : tabL most ramp cs ((i + 1) * 13) 0 0 = tabL most ramp cs ((i + 1) * 13) (i * 13) (i * 13 + 0) := by
  refine tab_ext most ramp cs (by rw [tab_len]) fun q h => ?_
  rw [tab_get _ _ _ _ _ _ _ h]
  by_cases c : (i + 1) * 13 ≤ q
  · rw [if_pos (.inl c), if_pos (.inl c)]
  · rw [if_neg (by omega), if_neg (by omega)]
theorem tab_end (i : Nat) : tabL most ramp cs ((i + 1) * 13) (i * 13) (i * 13 + 13) = tabL most ramp cs (i * 13) 0 0 := by
  refine tab_ext most ramp cs (by rw [tab_len]) fun q h => ?_
  rw [tab_get _ _ _ _ _ _ _ h]
  by_cases c : i * 13 ≤ q
  · rw [if_pos (by omega), if_pos (.inl c)]
  · rw [if_neg (by omega), if_neg (by omega)]
end table
theorem restF_in {most : Nat} {ramp : Int} : ∀ {cs : List (Int × Int)}, colOk most 4048156 cs → ∀ n : Nat, 0 ≤ restF most ramp cs n ∧ restF most ramp cs n ≤ 1099511627776 + 4048156
  | [], _, n => by
    unfold restF neverI
    split <;> omega
  | c :: r, h, n => by
    have ih := restF_in (ramp := ramp) (cs := r) fun c' h' => h c' (List.mem_cons_of_mem _ h')
    show 0 ≤ (if (n : Int) > most then neverI else missI c.1 c.2 n + leastN (restF most ramp r) (fun m => nearB ramp m n) 13) ∧ (if (n : Int) > most then neverI else missI c.1 c.2 n + leastN (restF most ramp r) (fun m => nearB ramp m n) 13) ≤ _
    split
    · unfold neverI; omega
    · have h1 := leastN_le (restF most ramp r) (fun m => nearB ramp m n) 13
      have h2 := leastN_nn (f := restF most ramp r) (near := fun m => nearB ramp m n) (k := 13) fun m _ => (ih m).1
      have h3 := h c List.mem_cons_self n (by omega)
      have h4 := missI_nn c.1 c.2 (x := (n : Int)) (by omega)
      unfold neverI at h1
      omega
theorem zip_drop {lv tg : List Int} {i : Nat} (h1 : i < lv.length) (h2 : i < tg.length) : (lv.zip tg).drop i = (lv.getD i 0, tg.getD i 0) :: (lv.zip tg).drop (i + 1) := by
  have h : i < (lv.zip tg).length := by rw [List.length_zip]; omega
  rw [List.drop_eq_getElem_cons h]
  congr 1
  rw [List.getElem_zip, List.getD_eq_getElem?_getD, List.getD_eq_getElem?_getD, List.getElem?_eq_getElem h1, List.getElem?_eq_getElem h2]
  rfl
theorem colOk_zip {lv tg : List Int} {most : Nat} (h1 : lvOk lv) (h2 : lvOk tg) (hm : most ≤ 12) : colOk most 4048156 (lv.zip tg) := by
  intro c hc x hx
  obtain ⟨k, hk, rfl⟩ := List.getElem_of_mem hc
  have hk' := hk
  rw [List.length_zip] at hk'
  rw [List.getElem_zip]
  have a := h1.2 k
  have b := h2.2 k
  rw [List.getD_eq_getElem?_getD, List.getElem?_eq_getElem (by omega)] at a b
  exact (miss_in a b ⟨by omega, by omega⟩).2.2
theorem colOk_drop {most : Nat} {K : Int} {cs : List (Int × Int)} (h : colOk most K cs) (i : Nat) : colOk most K (cs.drop i) := fun c hc => h c (List.mem_of_mem_drop hc)

end Go.Proofs.YtccddhoeampdjaaGreatDoor
