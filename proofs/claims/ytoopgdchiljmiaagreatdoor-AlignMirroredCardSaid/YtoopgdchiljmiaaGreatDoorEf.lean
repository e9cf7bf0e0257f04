/- Chapter 5: conflicts, the reference's and the program's. -/
import Derived.Test.YtoopgdchiljmiaaGreatDoorEh
import Derived.Test.YtoopgdchiljmiaaGreatDoorEd
set_option linter.unusedVariables false
set_option linter.unusedSimpArgs false
namespace Go.Proofs.YtoopgdchiljmiaaGreatDoor
open Go.RowKit Go.Sym

theorem prAt_drop (l : List (Int × Int)) (i k : Nat) : prAt (l.drop i) k = prAt l (i + k) := by
  unfold prAt
  rw [List.getD_eq_getElem?_getD, List.getD_eq_getElem?_getD, List.getElem?_drop]
theorem prC_drop (l : List (Int × Int)) (i : Nat) : (prC (l.drop i)).cells = (Cont.gen (l.length - i) 2 fun k => prV (l.getD (i + k) (0, 0))).cells := by
  unfold prC genL
  rw [List.length_drop]
  exact gen_congr fun k _ => congrArg prV (prAt_drop l i k)
theorem confB_iff {m s : List Th} {r b : Int} {p q : Int × Int} : confB m s r b p q = true ↔ max (plc m q - plc m p - (cnt s q - cnt s p)) (0 - (plc m q - plc m p - (cnt s q - cnt s p))) > 2 * b + shareS (cnt s q - cnt s p) r := by
  unfold confB
  rw [decide_eq_true_iff, show cnt s q - cnt s p - (plc m q - plc m p) = 0 - (plc m q - plc m p - (cnt s q - cnt s p)) by omega]
theorem innS_len (m s : List Th) (r b : Int) (l : List (Int × Int)) (i : Nat) : ∀ k, (innS m s r b l i k).length ≤ k
  | 0 => Nat.le_refl _
  | k + 1 => by
    have := innS_len m s r b l i k
    simp only [innS, List.length_append]
    split
    · simp only [List.length_cons, List.length_nil]; omega
    · simp only [List.length_nil]; omega
theorem confsS_len (m s : List Th) (r b : Int) (l : List (Int × Int)) : ∀ i, (confsS m s r b l i).length ≤ i * l.length
  | 0 => Nat.zero_le _
  | i + 1 => by
    have h1 := confsS_len m s r b l i
    have h2 := innS_len m s r b l i (l.length - 1 - i)
    simp only [confsS, List.length_append]
    rw [Nat.succ_mul]
    omega
theorem conf_few {m s : List Th} {r b : Int} {l : List (Int × Int)} {i k : Nat} (hl : l.length ≤ 64) (hi : i ≤ l.length) (hk : k ≤ l.length) : (confsS m s r b l i ++ innS m s r b l i k).length ≤ 10000 := by
  have h1 := confsS_len m s r b l i
  have h2 := innS_len m s r b l i k
  have h3 : i * l.length ≤ 64 * 64 := Nat.mul_le_mul (by omega) hl
  rw [List.length_append]
  omega
def slOk (r b : Int) : Prop := (0 ≤ r ∧ r ≤ 500) ∧ 0 ≤ b ∧ b ≤ 10000
theorem slOk_of {r b : Int} (h : slipS r b = 0) : slOk r b := by
  unfold slipS at h
  rw [firstS_cons, firstS_cons, withinS_zero, withinS_zero] at h
  exact ⟨h.1, h.2.1⟩

def twoA (p q : Int × Int) : AV := .agg [i64 p.1, i64 p.2, i64 q.1, i64 q.2]
def Conf_i (m s : List Th) (r b : Int) (p q : Int × Int) (σ : Ren) : Inst := { f := 150, hin := rideIn m s, args := [rdA m s, twoA p q, slA r b], hout := [], ret := bl (confB m s r b p q), σ := σ }
set_option maxRecDepth 20000 in
theorem Conf_s (m s : List Th) (r b : Int) (p q : Int × Int) (σ : Ren) (hl : m.length ≤ 64 ∧ s.length ≤ 64) (hm : placesOk m) (hs : placesOk s) (hr : slOk r b) (hp : inS m s p) (hq : inS m s q) (hpq : cnt s p ≤ cnt s q) : (Conf_i m s r b p q σ).ok Tryz.prog := by
  obtain ⟨⟨h1, h2⟩, h3, h4⟩ := hp
  obtain ⟨⟨h5, h6⟩, h7, h8⟩ := hq
  obtain ⟨hr1, hr2⟩ := hr
  have c1 := cnt_bound hs p
  have c2 := plc_bound hm p
  have c3 := cnt_bound hs q
  have c4 := plc_bound hm q
  have k1 := shareS_bound (d := cnt s q - cnt s p) (r := r) (by omega) hr1
  have d1 := c1
  have d2 := c2
  have d3 := c3
  have d4 := c4
  unfold cnt thAt at d1 d3
  unfold plc thAt at d2 d4
  have f1 : -1000000000 ≤ plc m q - plc m p ∧ plc m q - plc m p ≤ 1000000000 := by omega
  have f2 : -1000000000 ≤ cnt s q - cnt s p ∧ cnt s q - cnt s p ≤ 1000000000 := by omega
  unfold Conf_i Inst.ok; dsimp only; refine spec_of_body (tys := tys) 2 Tryz.func150 (by kernel_rfl) rfl tys_ok rfl (Nat.le_of_ble_eq_true rfl) (fun _ _ h => (by cases h)) fun F hP hm hC hrd => ?_; conv => whnf
  repeat first | refine lwp_seq fun K hK => ?_ | ((with_reducible refine gA ?_); apply_assumption -exfalso -symm) | refine gB ?_ | refine gC ?_ | refine gD ?_ | refine gE ?_ | refine gF rfl ?_ | refine gG rfl ?_ | refine gH ?_ | refine gI ?_ | refine gJ ?_ | refine gK ?_ | refine gL ?_ | refine lwp_region hC ⟨[], [], []⟩ (told0 _ _) rfl ⟨⟩ ?_ | refine lwp_region hC ⟨[], [], []⟩ (told0 _ _) rfl (by exact sd) ?_
  (refine lwp_drawn hC (by rw [hP]; exact mixed) ⟨[], [], []⟩ (told0 _ _) [0, 1, 0, 4, 12, 31, 63, 127, 0, 256, 0, 1024, 3072, 7936, 16128, 32512, 65535, 131071] 16 rfl ?_ ?_; rotate_left 1)
  · repeat first | refine lwp_seq fun K hK => ?_ | ((with_reducible refine gA ?_); apply_assumption -exfalso -symm) | refine gB ?_ | refine gC ?_ | refine gD ?_ | refine gE ?_ | refine gF rfl ?_ | refine gG rfl ?_ | refine gH ?_ | refine gI ?_ | refine gJ ?_ | refine gK ?_ | refine gL ?_ | refine lwp_region hC ⟨[], [], []⟩ (told0 _ _) rfl ⟨⟩ ?_ | refine lwp_region hC ⟨[], [], []⟩ (told0 _ _) rfl (by exact sd) ?_
    (refine lwp_drawn hC (by rw [hP]; exact mixed) ⟨[], [], []⟩ (told0 _ _) [0, 1, 0, 4, 12, 31, 63, 127, 0, 256, 0, 1024, 3072, 7936, 16128, 32512, 65535, 131071] 16 rfl ?_ ?_; rotate_left 1)
    · repeat first | refine lwp_seq fun K hK => ?_ | ((with_reducible refine gA ?_); apply_assumption -exfalso -symm) | refine gB ?_ | refine gC ?_ | refine gD ?_ | refine gE ?_ | refine gF rfl ?_ | refine gG rfl ?_ | refine gH ?_ | refine gI ?_ | refine gJ ?_ | refine gK ?_ | refine gL ?_ | refine lwp_region hC ⟨[], [], []⟩ (told0 _ _) rfl ⟨⟩ ?_ | refine lwp_region hC ⟨[], [], []⟩ (told0 _ _) rfl (by exact sd) ?_
      (refine lwp_drawn hC (by rw [hP]; exact mixed) ⟨[], [], [(2, Far_i (plc m q - plc m p) (cnt s q - cnt s p)), (8, Slipped_i r b (cnt s q - cnt s p))]⟩ (told1 _ (by rw [hP]; exact (calls_cons (Far_s _ _ f1 f2) (calls_cons (Slipped_s _ _ _ (by omega) hr1) calls_nil)))) [0, 0, 3, 0, 8, 24, 0, 0, 199, 511, 1023, 2047] 9 rfl ?_ ?_; rotate_left 1)
      · repeat first | refine lwp_seq fun K hK => ?_ | ((with_reducible refine gA ?_); apply_assumption -exfalso -symm) | refine gB ?_ | refine gC ?_ | refine gD ?_ | refine gE ?_ | refine gF rfl ?_ | refine gG rfl ?_ | refine gH ?_ | refine gI ?_ | refine gJ ?_ | refine gK ?_ | refine gL ?_ | refine lwp_region hC ⟨[], [], []⟩ (told0 _ _) rfl ⟨⟩ ?_ | refine lwp_region hC ⟨[], [], []⟩ (told0 _ _) rfl (by exact sd) ?_
        (refine end_intro (by first | exact .inr rfl | exact .inl rfl) [] rfl ?_)
        exact ⟨rfl, trivial⟩
      · exact sd
    · exact sd
  · exact sd

end Go.Proofs.YtoopgdchiljmiaaGreatDoor
