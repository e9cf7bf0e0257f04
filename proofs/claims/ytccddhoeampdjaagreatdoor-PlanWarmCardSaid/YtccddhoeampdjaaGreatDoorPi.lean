/- Chapter 9: Joined, the program's and the reference's. -/
import Derived.Test.YtccddhoeampdjaaGreatDoorPh
set_option linter.unusedVariables false
set_option linter.unusedSimpArgs false
namespace Go.Proofs.YtccddhoeampdjaaGreatDoor
open Go.RowKit Go.Sym

theorem firstS_snoc (x : Int) : ∀ l : List Int, firstS (l ++ [x]) = firstS [firstS l, x]
  | [] => by simp [firstS]
  | a :: l => by
    simp only [List.cons_append, firstS, firstS_snoc x l]
    by_cases h : a = 0 <;> by_cases h2 : firstS l = 0 <;> by_cases h3 : x = 0 <;> simp [h, h2, h3]
def z3D : Z3 := ⟨0, 0, 0⟩
def z3C (l : List Z3) : Cont := genL z3V z3D 3 l
theorem z3C_cells (l : List Z3) : (z3C l).cells = (l.flatMap z3V).map AV.lit := genL_cells (f := z3V) (fun _ => rfl) l
theorem z3C_snoc (l : List Z3) (x : Z3) : (z3C (l ++ [x])).cells = (z3C l).cells ++ [i64 x.x, i64 x.y, i64 x.z] := genL_snoc (f := z3V) (fun _ => rfl) l x
def railOf (r : Z3) : Int := railS r.x r.y r.z
def railsL (l : List Z3) : List Int := l.map railOf
def heatsL (g : Int) (l : List Z3) : List Int := l.map fun r => heatZ r.x r.y r.z g
def lensL (l : List Z3) : List Int := l.map fun r => r.x
theorem railsL_len (l : List Z3) : (railsL l).length = l.length := by simp [railsL]
theorem heatsL_len (g : Int) (l : List Z3) : (heatsL g l).length = l.length := by simp [heatsL]
theorem lensL_len (l : List Z3) : (lensL l).length = l.length := by simp [lensL]
theorem railsL_take (l : List Z3) (k : Nat) (h : k < l.length) : railsL (l.take (k + 1)) = railsL (l.take k) ++ [railOf (l.getD k z3D)] := by
  rw [take_snoc l z3D k h]; simp [railsL]
theorem heatsL_take (g : Int) (l : List Z3) (k : Nat) (h : k < l.length) : heatsL g (l.take (k + 1)) = heatsL g (l.take k) ++ [heatZ (l.getD k z3D).x (l.getD k z3D).y (l.getD k z3D).z g] := by
  rw [take_snoc l z3D k h]; simp [heatsL]
theorem lensL_take (l : List Z3) (k : Nat) (h : k < l.length) : lensL (l.take (k + 1)) = lensL (l.take k) ++ [(l.getD k z3D).x] := by
  rw [take_snoc l z3D k h]; simp [lensL]
def RMap_i (l : List Z3) (σ : Ren) : Inst := { f := 126, hin := [(0, .ro l.length 3 (z3C l))], args := [.sl 0 l.length, .fn 55 [] []], hout := [(1, .row 31 l.length 1 (.ints .i64 (railsL l)))], ret := .sl 1 l.length, σ := σ }
theorem RMap_s (l : List Z3) (σ : Ren) (hl : l.length ≤ 1000000) : (RMap_i l σ).ok Tryz.prog := by
  unfold RMap_i Inst.ok; dsimp only; refine spec_of_body (tys := tys) 1 Tryz.func126 (by kernel_rfl) rfl tys_ok rfl (Nat.le_of_ble_eq_true rfl) (fun _ _ h => (by cases h)) fun F hP hm hC hrd => ?_; conv => whnf
  repeat first | refine lwp_seq fun K hK => ?_ | (with_reducible refine gA ?_; apply_assumption -exfalso -symm) | refine Stp.h ?_ | refine gF rfl ?_ | refine gG rfl ?_ | refine gM hC rfl sd ?_
  refine lwp_loop (fun k : Nat => ⟨[(10, i64 k), (9, i64 l.length), (8, .sl 0 l.length), (5, .sl 1 k), (1, .fn 55 [] [])], [(1, .row 31 k 1 (.ints .i64 (railsL (l.take k)))), (0, .ro l.length 3 (z3C l))], 2⟩) (fun k => k ≤ l.length) (fun k => l.length - k) 0 ⟨?_, sub_intro hm [(0, some 0), (1, none)] rfl ?_⟩ ?_
  · exact Nat.zero_le _
  · exact sd
  · rintro k hk
    repeat first | refine lwp_seq fun K hK => ?_ | (with_reducible refine gA ?_; apply_assumption -exfalso -symm) | refine Stp.h ?_ | refine gF rfl ?_ | refine gG rfl ?_ | refine gM hC rfl sd ?_
    refine lwp_condS hC rfl sd ?_ ?_ <;> intro hb
    · repeat first | refine lwp_seq fun K hK => ?_ | (with_reducible refine gA ?_; apply_assumption -exfalso -symm) | refine Stp.h ?_ | refine gF rfl ?_ | refine gG rfl ?_ | refine gM hC rfl sd ?_
      rw [Int.toNat_natCast]
      (refine lwp_region hC ⟨[], [], [(3, PRail_i (l.getD k z3D).x (l.getD k z3D).y (l.getD k z3D).z)]⟩ (told1 _ (by rw [hP]; exact (calls_cons (PRail_s _ _ _) calls_nil))) rfl ?_ ?_; rotate_left 1)
      · repeat first | refine lwp_seq fun K hK => ?_ | (with_reducible refine gA ?_; apply_assumption -exfalso -symm) | refine Stp.h ?_ | refine gF rfl ?_ | refine gG rfl ?_ | refine gM hC rfl sd ?_
        refine gA ⟨k + 1, ?_, ?_, sub_intro hm [(0, some 0), (1, some 5)] rfl ?_⟩
        · omega
        · omega
        · have e : railsL (l.take (k + 1)) = railsL (l.take k) ++ [railS (l.getD k z3D).x (l.getD k z3D).y (l.getD k z3D).z] := railsL_take _ _ (by omega)
          exact sd
      · exact sd
    · repeat first | refine lwp_seq fun K hK => ?_ | (with_reducible refine gA ?_; apply_assumption -exfalso -symm) | refine Stp.h ?_ | refine gF rfl ?_ | refine gG rfl ?_ | refine gM hC rfl sd ?_
      (refine end_intro (by first | exact .inr rfl | exact .inl rfl) [(1, some 1)] rfl ?_)
      obtain rfl : k = l.length := by omega
      rw [List.take_of_length_le (by omega)]
      exact sd
def HeatC_i (L H E g : Int) (σ : Ren) : Inst := { f := 128, hin := [(0, .rb 3 [i64 g])], args := [.agg [i64 L, i64 H, i64 E], .ptr 0 0 0 0], hout := [], ret := i64 (heatZ L H E g), σ := σ }
theorem HeatC_s (L H E g : Int) (σ : Ren) (hB : RailB L H E g) : (HeatC_i L H E g σ).ok Tryz.prog := by
  unfold HeatC_i Inst.ok; dsimp only; refine spec_of_body (tys := tys) 1 Tryz.func128 (by kernel_rfl) rfl tys_ok rfl (Nat.le_of_ble_eq_true rfl) (fun _ _ h => (by cases h)) fun F hP hm hC hrd => ?_; conv => whnf
  repeat first | refine lwp_seq fun K hK => ?_ | (with_reducible refine gA ?_; apply_assumption -exfalso -symm) | refine Stp.h ?_ | refine gF rfl ?_ | refine gG rfl ?_ | refine gM hC rfl sd ?_
  (refine lwp_region hC ⟨[], [], [(2, PHeat_i L H E g)]⟩ (told1 _ (by rw [hP]; exact (calls_cons (PHeat_s _ _ _ _ hB) calls_nil))) rfl ?_ ?_; rotate_left 1)
  · repeat first | refine lwp_seq fun K hK => ?_ | (with_reducible refine gA ?_; apply_assumption -exfalso -symm) | refine Stp.h ?_ | refine gF rfl ?_ | refine gG rfl ?_ | refine gM hC rfl sd ?_
    (refine end_intro (by first | exact .inr rfl | exact .inl rfl) [] rfl ?_)
    exact ⟨rfl, trivial⟩
  · exact sd
def LenC_i (L H E : Int) : Inst := { f := 129, hin := [], args := [.agg [i64 L, i64 H, i64 E]], hout := [], ret := i64 L, σ := [] }
theorem LenC_s (L H E : Int) : (LenC_i L H E).ok Tryz.prog := by
  unfold LenC_i Inst.ok; dsimp only; refine spec_of_body (tys := tys) 0 Tryz.func129 (by kernel_rfl) rfl tys_ok rfl (Nat.le_of_ble_eq_true rfl) (fun _ _ h => (by cases h)) fun F hP hm hC hrd => ?_; conv => whnf
  repeat first | refine lwp_seq fun K hK => ?_ | (with_reducible refine gA ?_; apply_assumption -exfalso -symm) | refine Stp.h ?_ | refine gF rfl ?_ | refine gG rfl ?_ | refine gM hC rfl sd ?_
  (refine end_intro (by first | exact .inr rfl | exact .inl rfl) [] rfl ?_)
  exact ⟨rfl, trivial⟩
def HMap_i (g : Int) (l : List Z3) (σ : Ren) : Inst := { f := 127, hin := [(0, .ro l.length 3 (z3C l)), (1, .rb 3 [i64 g])], args := [.sl 0 l.length, .fn 128 [] [.ptr 1 0 0 0]], hout := [(2, .row 3 l.length 1 (.ints .i64 (heatsL g l)))], ret := .sl 2 l.length, σ := σ }
theorem HMap_s (g : Int) (l : List Z3) (σ : Ren) (hl : l.length ≤ 1000000) (hB : ∀ k, k < l.length → RailB (l.getD k z3D).x (l.getD k z3D).y (l.getD k z3D).z g) : (HMap_i g l σ).ok Tryz.prog := by
  unfold HMap_i Inst.ok; dsimp only; refine spec_of_body (tys := tys) 2 Tryz.func127 (by kernel_rfl) rfl tys_ok rfl (Nat.le_of_ble_eq_true rfl) (fun _ _ h => (by cases h)) fun F hP hm hC hrd => ?_; conv => whnf
  repeat first | refine lwp_seq fun K hK => ?_ | (with_reducible refine gA ?_; apply_assumption -exfalso -symm) | refine Stp.h ?_ | refine gF rfl ?_ | refine gG rfl ?_ | refine gM hC rfl sd ?_
  refine lwp_loop (fun k : Nat => ⟨[(10, i64 k), (9, i64 l.length), (8, .sl 0 l.length), (5, .sl 2 k), (1, .fn 128 [] [.ptr 1 0 0 0])], [(2, .row 3 k 1 (.ints .i64 (heatsL g (l.take k)))), (0, .ro l.length 3 (z3C l)), (1, .rb 3 [i64 g])], 3⟩) (fun k => k ≤ l.length) (fun k => l.length - k) 0 ⟨?_, sub_intro hm [(0, some 0), (1, some 1), (2, none)] rfl ?_⟩ ?_
  · exact Nat.zero_le _
  · exact sd
  · rintro k hk
    repeat first | refine lwp_seq fun K hK => ?_ | (with_reducible refine gA ?_; apply_assumption -exfalso -symm) | refine Stp.h ?_ | refine gF rfl ?_ | refine gG rfl ?_ | refine gM hC rfl sd ?_
    refine lwp_condS hC rfl sd ?_ ?_ <;> intro hb
    · repeat first | refine lwp_seq fun K hK => ?_ | (with_reducible refine gA ?_; apply_assumption -exfalso -symm) | refine Stp.h ?_ | refine gF rfl ?_ | refine gG rfl ?_ | refine gM hC rfl sd ?_
      rw [Int.toNat_natCast]
      (refine lwp_region hC ⟨[], [], [(3, HeatC_i (l.getD k z3D).x (l.getD k z3D).y (l.getD k z3D).z g [(0, some 1)])]⟩ (told1 _ (by rw [hP]; exact (calls_cons (HeatC_s _ _ _ _ _ (hB k (by omega))) calls_nil))) rfl ?_ ?_; rotate_left 1)
      · repeat first | refine lwp_seq fun K hK => ?_ | (with_reducible refine gA ?_; apply_assumption -exfalso -symm) | refine Stp.h ?_ | refine gF rfl ?_ | refine gG rfl ?_ | refine gM hC rfl sd ?_
        refine gA ⟨k + 1, ?_, ?_, sub_intro hm [(0, some 0), (1, some 1), (2, some 6)] rfl ?_⟩
        · omega
        · omega
        · have e := heatsL_take g l k (by omega)
          exact sd
      · exact sd
    · repeat first | refine lwp_seq fun K hK => ?_ | (with_reducible refine gA ?_; apply_assumption -exfalso -symm) | refine Stp.h ?_ | refine gF rfl ?_ | refine gG rfl ?_ | refine gM hC rfl sd ?_
      (refine end_intro (by first | exact .inr rfl | exact .inl rfl) [(2, some 2)] rfl ?_)
      obtain rfl : k = l.length := by omega
      rw [List.take_of_length_le (by omega)]
      exact sd
def NMap_i (l : List Z3) (σ : Ren) : Inst := { f := 127, hin := [(0, .ro l.length 3 (z3C l))], args := [.sl 0 l.length, .fn 129 [] []], hout := [(1, .row 3 l.length 1 (.ints .i64 (lensL l)))], ret := .sl 1 l.length, σ := σ }
theorem NMap_s (l : List Z3) (σ : Ren) (hl : l.length ≤ 1000000) : (NMap_i l σ).ok Tryz.prog := by
  unfold NMap_i Inst.ok; dsimp only; refine spec_of_body (tys := tys) 1 Tryz.func127 (by kernel_rfl) rfl tys_ok rfl (Nat.le_of_ble_eq_true rfl) (fun _ _ h => (by cases h)) fun F hP hm hC hrd => ?_; conv => whnf
  repeat first | refine lwp_seq fun K hK => ?_ | (with_reducible refine gA ?_; apply_assumption -exfalso -symm) | refine Stp.h ?_ | refine gF rfl ?_ | refine gG rfl ?_ | refine gM hC rfl sd ?_
  refine lwp_loop (fun k : Nat => ⟨[(10, i64 k), (9, i64 l.length), (8, .sl 0 l.length), (5, .sl 1 k), (1, .fn 129 [] [])], [(1, .row 3 k 1 (.ints .i64 (lensL (l.take k)))), (0, .ro l.length 3 (z3C l))], 2⟩) (fun k => k ≤ l.length) (fun k => l.length - k) 0 ⟨?_, sub_intro hm [(0, some 0), (1, none)] rfl ?_⟩ ?_
  · exact Nat.zero_le _
  · exact sd
  · rintro k hk
    repeat first | refine lwp_seq fun K hK => ?_ | (with_reducible refine gA ?_; apply_assumption -exfalso -symm) | refine Stp.h ?_ | refine gF rfl ?_ | refine gG rfl ?_ | refine gM hC rfl sd ?_
    refine lwp_condS hC rfl sd ?_ ?_ <;> intro hb
    · repeat first | refine lwp_seq fun K hK => ?_ | (with_reducible refine gA ?_; apply_assumption -exfalso -symm) | refine Stp.h ?_ | refine gF rfl ?_ | refine gG rfl ?_ | refine gM hC rfl sd ?_
      rw [Int.toNat_natCast]
      (refine lwp_region hC ⟨[], [], [(3, LenC_i (l.getD k z3D).x (l.getD k z3D).y (l.getD k z3D).z)]⟩ (told1 _ (by rw [hP]; exact (calls_cons (LenC_s _ _ _) calls_nil))) rfl ?_ ?_; rotate_left 1)
      · repeat first | refine lwp_seq fun K hK => ?_ | (with_reducible refine gA ?_; apply_assumption -exfalso -symm) | refine Stp.h ?_ | refine gF rfl ?_ | refine gG rfl ?_ | refine gM hC rfl sd ?_
        refine gA ⟨k + 1, ?_, ?_, sub_intro hm [(0, some 0), (1, some 5)] rfl ?_⟩
        · omega
        · omega
        · have e := lensL_take l k (by omega)
          exact sd
      · exact sd
    · repeat first | refine lwp_seq fun K hK => ?_ | (with_reducible refine gA ?_; apply_assumption -exfalso -symm) | refine Stp.h ?_ | refine gF rfl ?_ | refine gG rfl ?_ | refine gM hC rfl sd ?_
      (refine end_intro (by first | exact .inr rfl | exact .inl rfl) [(1, some 1)] rfl ?_)
      obtain rfl : k = l.length := by omega
      rw [List.take_of_length_le (by omega)]
      exact sd

def manyE (l : List Z3) : Int := firstS [whenS (decide ((l.length : Int) = 0)) 12, whenS (decide ((l.length : Int) > 8)) 5]
def oneE (l : List Z3) (g : Int) : Int := firstS [manyE l, firstS [firstS (railsL l), growS g]]
def joinS (l : List Z3) (g : Int) : (Int × Int) × Int := if oneE l g = 0 then rtS (sumZ (heatsL g l)) (sumZ (lensL l)) else ((0, 0), oneE l g)
structure JoinB (l : List Z3) (g : Int) : Prop where
  len : 1 ≤ l.length ∧ l.length ≤ 8
  rails : ∀ k, k < l.length → RailB (l.getD k z3D).x (l.getD k z3D).y (l.getD k z3D).z g
  h1 : -8008000000000 ≤ sumZ (heatsL g l) ∧ sumZ (heatsL g l) ≤ 8008000000000
  h2 : 1 ≤ sumZ (lensL l) ∧ sumZ (lensL l) ≤ 8000000
  s1 : sumOk (heatsL g l)
  s2 : sumOk (lensL l)
theorem sumZ_abs {A B : Int} : ∀ {l : List Int}, (∀ x ∈ l, A ≤ x ∧ x ≤ B) → l.length * A ≤ sumZ l ∧ sumZ l ≤ l.length * B
  | [], _ => by simp [sumZ]
  | a :: l, h => by
    have h1 := h a List.mem_cons_self
    have h2 := sumZ_abs (l := l) fun x hx => h x (List.mem_cons_of_mem _ hx)
    simp only [sumZ, List.length_cons]
    have e : ∀ M : Int, ((l.length + 1 : Nat) : Int) * M = l.length * M + M := fun M => by rw [show ((l.length + 1 : Nat) : Int) = (l.length : Int) + 1 by omega, Int.add_mul, Int.one_mul]
    rw [e, e]
    omega
theorem railsL_zero {l : List Z3} (h : firstS (railsL l) = 0) : ∀ r ∈ l, railOf r = 0 := by
  induction l with
  | nil => intro x hx; cases hx
  | cons a l ih =>
    have h1 := (firstS_cons _ _).1 h
    intro x hx
    rcases List.mem_cons.1 hx with rfl | hx
    · exact h1.1
    · exact ih h1.2 x hx
theorem getD_mem {α : Type} {l : List α} {d : α} {k : Nat} (h : k < l.length) : l.getD k d ∈ l := by
  rw [List.getD_eq_getElem?_getD, List.getElem?_eq_getElem h]; exact List.getElem_mem h
theorem joinB {l : List Z3} {g : Int} (h : oneE l g = 0) : JoinB l g := by
  have h1 := (firstS_cons _ _).1 h
  have h2 := (firstS_cons _ _).1 h1.1
  have h3 := ((firstS_cons _ _).1 h1.2).1
  have h4 := (firstS_cons _ _).1 h3
  have h5 := ((firstS_cons _ _).1 h4.2).1
  have n0 := of_decide_eq_false ((whenS_zero (by decide)).1 h2.1)
  have n8 := of_decide_eq_false ((whenS_zero (by decide)).1 ((firstS_cons _ _).1 h2.2).1)
  have hr : ∀ r ∈ l, RailB r.x r.y r.z g := fun r hr => railB (railsL_zero h4.1 r hr) h5
  have k1 : ∀ x ∈ heatsL g l, -1001000000000 ≤ x ∧ x ≤ 1001000000000 := fun x hx => by
    obtain ⟨r, hr', rfl⟩ := List.mem_map.1 hx
    have := (hr r hr').heat
    omega
  have k2 : ∀ x ∈ lensL l, 1 ≤ x ∧ x ≤ 1000000 := fun x hx => by
    obtain ⟨r, hr', rfl⟩ := List.mem_map.1 hx
    exact (hr r hr').b1
  have t1 := sumZ_abs k1
  have t2 := sumZ_abs k2
  rw [heatsL_len] at t1
  rw [lensL_len] at t2
  refine ⟨by omega, fun k hk => hr _ (getD_mem hk), by omega, by omega, fun k hk => ?_, fun k hk => ?_⟩
  · have := sumZ_abs (l := (heatsL g l).take k) fun x hx => k1 x (List.mem_of_mem_take hx)
    rw [List.length_take, heatsL_len] at this
    omega
  · have := sumZ_abs (l := (lensL l).take k) fun x hx => k2 x (List.mem_of_mem_take hx)
    rw [List.length_take, lensL_len] at this
    omega
def Join_i (l : List Z3) (g : Int) (σ : Ren) : Inst := { f := 56, hin := [(0, .ro l.length 3 (z3C l))], args := [.sl 0 l.length, i64 g], hout := [], ret := .tup [.agg [i64 (joinS l g).1.1, i64 (joinS l g).1.2], i64 (joinS l g).2], σ := σ }
set_option maxRecDepth 20000 in
theorem Join_s (l : List Z3) (g : Int) (σ : Ren) (hl : l.length ≤ 1000000) : (Join_i l g σ).ok Tryz.prog := by
  have hF := PFirst_s (railsL l) [(0, some 4)] (by rw [railsL_len]; omega)
  unfold PFirst_i at hF
  rw [railsL_len] at hF
  unfold Join_i Inst.ok; dsimp only; refine spec_of_body (tys := tys) 1 Tryz.func56 (by kernel_rfl) rfl tys_ok rfl (Nat.le_of_ble_eq_true rfl) (fun _ _ h => (by cases h)) fun F hP hm hC hrd => ?_; conv => whnf
  repeat first | refine lwp_seq fun K hK => ?_ | (with_reducible refine gA ?_; apply_assumption -exfalso -symm) | refine Stp.h ?_ | refine gF rfl ?_ | refine gG rfl ?_ | refine gM hC rfl sd ?_
  (refine lwp_region hC ⟨[], [], [(3, PWhen_i (decide ((l.length : Int) = 0)) 12), (7, PWhen_i (decide ((l.length : Int) > 8)) 5), (9, PFirst_i [whenS (decide ((l.length : Int) = 0)) 12, whenS (decide ((l.length : Int) > 8)) 5] [(0, some 3)])]⟩ (told1 _ (by rw [hP]; exact (calls_cons (PWhen_s _ _) (calls_cons (PWhen_s _ _) (calls_cons (PFirst_s _ _ (by simp)) calls_nil))))) rfl ?_ ?_; rotate_left 1)
  · repeat first | refine lwp_seq fun K hK => ?_ | (with_reducible refine gA ?_; apply_assumption -exfalso -symm) | refine Stp.h ?_ | refine gF rfl ?_ | refine gG rfl ?_ | refine gM hC rfl sd ?_
    refine lwp_condS hC rfl sd ?_ ?_ <;> intro hb
    · have hb : ¬ manyE l = 0 := hb
      have e1 : oneE l g = manyE l := by unfold oneE; simp only [firstS, if_neg hb]
      have e : joinS l g = ((0, 0), manyE l) := by unfold joinS; rw [if_neg (by rw [e1]; exact hb), e1]
      repeat first | refine lwp_seq fun K hK => ?_ | (with_reducible refine gA ?_; apply_assumption -exfalso -symm) | refine Stp.h ?_ | refine gF rfl ?_ | refine gG rfl ?_ | refine gM hC rfl sd ?_
      (refine end_intro (by first | exact .inr rfl | exact .inl rfl) [] rfl ?_)
      rw [e]
      exact ⟨rfl, rfl, rfl, trivial⟩
    · have hb : manyE l = 0 := hb
      have e1 : oneE l g = firstS [firstS (railsL l), growS g] := by
        unfold oneE; rw [hb]
        simp only [firstS, if_true]
        by_cases q1 : firstS (railsL l) = 0 <;> by_cases q2 : growS g = 0 <;> simp [q1, q2]
      clear hb
      repeat first | refine lwp_seq fun K hK => ?_ | (with_reducible refine gA ?_; apply_assumption -exfalso -symm) | refine Stp.h ?_ | refine gF rfl ?_ | refine gG rfl ?_ | refine gM hC rfl ⟨⟩ ?_
      (refine lwp_drawn hC (by rw [hP]; exact mixed) ⟨[], [], [(1, RMap_i l [(0, some 0)]), (2, { f := 94, hin := [(0, .ro l.length 1 (.ints .i64 (railsL l)))], args := [.sl 0 l.length], hout := [], ret := i64 (firstS (railsL l)), σ := [(0, some 4)] }), (4, PGrow_i g), (6, PFirst_i [firstS (railsL l), growS g] [(0, some 5)])]⟩ (told1 _ (by rw [hP]; exact (calls_cons (RMap_s _ _ hl) (calls_cons (hF) (calls_cons (PGrow_s _) (calls_cons (PFirst_s _ _ (by simp)) calls_nil)))))) [0, 1, 3, 0, 15, 31, 63, 127] 4 rfl ?_ ?_; rotate_left 1)
      · rw [← e1]
        repeat first | refine lwp_seq fun K hK => ?_ | (with_reducible refine gA ?_; apply_assumption -exfalso -symm) | refine Stp.h ?_ | refine gF rfl ?_ | refine gG rfl ?_ | refine gM hC rfl sd ?_
        refine lwp_condS hC rfl sd ?_ ?_ <;> intro hb
        · have e : joinS l g = ((0, 0), oneE l g) := if_neg hb
          repeat first | refine lwp_seq fun K hK => ?_ | (with_reducible refine gA ?_; apply_assumption -exfalso -symm) | refine Stp.h ?_ | refine gF rfl ?_ | refine gG rfl ?_ | refine gM hC rfl sd ?_
          (refine end_intro (by first | exact .inr rfl | exact .inl rfl) [] rfl ?_)
          rw [e]
          exact ⟨rfl, rfl, rfl, trivial⟩
        · have e : joinS l g = rtS (sumZ (heatsL g l)) (sumZ (lensL l)) := if_pos hb
          obtain ⟨⟨n1, n2⟩, hr, h1, h2, s1, s2⟩ := joinB hb
          clear hb e1
          have hT1 := Total_s (heatsL g l) [(0, some 6)] (by rw [heatsL_len]; omega) s1
          unfold Total_i at hT1
          rw [heatsL_len] at hT1
          have hT2 := Total_s (lensL l) [(0, some 7)] (by rw [lensL_len]; omega) s2
          unfold Total_i at hT2
          rw [lensL_len] at hT2
          repeat first | refine lwp_seq fun K hK => ?_ | (with_reducible refine gA ?_; apply_assumption -exfalso -symm) | refine Stp.h ?_ | refine gF rfl ?_ | refine gG rfl ?_ | refine gM hC rfl ⟨⟩ ?_
          (refine lwp_region hC ⟨[], [], [(2, HMap_i g l [(0, some 0), (1, some 1)]), (3, { f := 114, hin := [(0, .ro l.length 1 (.ints .i64 (heatsL g l)))], args := [.sl 0 l.length], hout := [], ret := i64 (sumZ (heatsL g l)), σ := [(0, some 6)] }), (5, NMap_i l [(0, some 0)]), (6, { f := 114, hin := [(0, .ro l.length 1 (.ints .i64 (lensL l)))], args := [.sl 0 l.length], hout := [], ret := i64 (sumZ (lensL l)), σ := [(0, some 7)] }), (7, PLow_i (sumZ (heatsL g l)) (sumZ (lensL l)))]⟩ (told1 _ (by rw [hP]; exact (calls_cons (HMap_s _ _ _ hl hr) (calls_cons (hT1) (calls_cons (NMap_s _ _ hl) (calls_cons (hT2) (calls_cons (PLow_s _ _ (by omega) (by omega)) calls_nil))))))) rfl ?_ ?_; rotate_left 1)
          · repeat first | refine lwp_seq fun K hK => ?_ | (with_reducible refine gA ?_; apply_assumption -exfalso -symm) | refine Stp.h ?_ | refine gF rfl ?_ | refine gG rfl ?_ | refine gM hC rfl sd ?_
            (refine end_intro (by first | exact .inr rfl | exact .inl rfl) [] rfl ?_)
            rw [e]
            exact ⟨rfl, rfl, rfl, trivial⟩
          · exact sd
      · exact sd
  · exact sd
def RJoin_i (l : List Z3) (g : Int) (σ : Ren) : Inst := { f := 58, hin := [(0, .ro l.length 3 (z3C l))], args := [.sl 0 l.length, i64 g], hout := [], ret := .tup [.agg [i64 (joinS l g).1.1, i64 (joinS l g).1.2], i64 (joinS l g).2], σ := σ }
set_option maxRecDepth 20000 in
theorem RJoin_s (l : List Z3) (g : Int) (σ : Ren) (hz : oneE l g = 0) : (RJoin_i l g σ).ok Tryz.prog := by
  have e : joinS l g = rtS (sumZ (heatsL g l)) (sumZ (lensL l)) := if_pos hz
  obtain ⟨⟨n1, n2⟩, hr, h1, h2, s1, s2⟩ := joinB hz
  clear hz
  unfold RJoin_i Inst.ok; dsimp only; refine spec_of_body (tys := tys) 1 Tryz.func58 (by kernel_rfl) rfl tys_ok rfl (Nat.le_of_ble_eq_true rfl) (fun _ _ h => (by cases h)) fun F hP hm hC hrd => ?_; conv => whnf
  repeat first | refine lwp_seq fun K hK => ?_ | (with_reducible refine gA ?_; apply_assumption -exfalso -symm) | refine Stp.h ?_ | refine gF rfl ?_ | refine gG rfl ?_ | refine gM hC rfl sd ?_
  refine lwp_loop (fun k : Nat => ⟨[(8, i64 k), (0, .sl 0 l.length), (1, i64 g), (6, i64 (sumZ (heatsL g (l.take k)))), (7, i64 (sumZ (lensL (l.take k)))), (4, .ptr 1 0 0 0)], [(1, .blk 82 [i64 0, i64 0]), (0, .ro l.length 3 (z3C l))], 2⟩) (fun k => k ≤ l.length) (fun k => l.length - k) 0 ⟨?_, sub_intro hm [(0, some 0), (1, some 1)] rfl ?_⟩ ?_
  · exact Nat.zero_le _
  · exact sd
  · rintro k hk
    have hkk : ((k : Int)).toNat = k := Int.toNat_natCast k
    repeat first | refine lwp_seq fun K hK => ?_ | (with_reducible refine gA ?_; apply_assumption -exfalso -symm) | refine Stp.h ?_ | refine gF rfl ?_ | refine gG rfl ?_ | refine gM hC rfl sd ?_
    refine lwp_condS hC rfl sd ?_ ?_ <;> intro hb
    · have hk2 : k < l.length := by omega
      have c1 := s1 (k + 1) (by rw [heatsL_len]; omega)
      have c2 := s2 (k + 1) (by rw [lensL_len]; omega)
      have d1 : sumZ ((heatsL g l).take (k + 1)) = sumZ (heatsL g (l.take k)) + heatZ (l.getD k z3D).x (l.getD k z3D).y (l.getD k z3D).z g := by
        rw [← sumZ_snoc, ← heatsL_take _ _ _ hk2]; unfold heatsL; rw [List.map_take]
      have d2 : sumZ ((lensL l).take (k + 1)) = sumZ (lensL (l.take k)) + (l.getD k z3D).x := by
        rw [← sumZ_snoc, ← lensL_take _ _ hk2]; unfold lensL; rw [List.map_take]
      rw [d1] at c1
      rw [d2] at c2
      clear d1 d2
      repeat first | refine lwp_seq fun K hK => ?_ | (with_reducible refine gA ?_; apply_assumption -exfalso -symm) | refine Stp.h ?_ | refine gF rfl ?_ | refine gG rfl ?_ | refine gM hC rfl ⟨⟩ ?_
      (refine lwp_drawn2 hC (by rw [hP]; exact mixed) ⟨[], [], [(6, RHeat_i (l.getD k z3D).x (l.getD k z3D).y (l.getD k z3D).z g)]⟩ (told1 _ (by rw [hP]; exact (calls_cons (RHeat_s _ _ _ _ (hr k hk2)) calls_nil))) [0, 0, 0, 6, 14, 0, 62, 127, 0, 0, 0, 1536, 3584, 7680, 16128, 255, 65535] 15 32512 rfl ?_ ?_; rotate_left 1)
      · rw [hkk]
        repeat first | refine lwp_seq fun K hK => ?_ | (with_reducible refine gA ?_; apply_assumption -exfalso -symm) | refine Stp.h ?_ | refine gF rfl ?_ | refine gG rfl ?_ | refine gM hC rfl sd ?_
        refine gA ⟨k + 1, ?_, ?_, sub_intro hm [(0, some 0), (1, some 1)] rfl ?_⟩
        · omega
        · omega
        · rw [heatsL_take _ _ _ hk2, lensL_take _ _ hk2, sumZ_snoc, sumZ_snoc]
          clear c1 c2 s1 s2 hr
          exact sd
      · rw [hkk]
        clear s1 s2 hr
        exact sd
    · obtain rfl : k = l.length := by omega
      rw [List.take_of_length_le (Nat.le_refl _)]
      repeat first | refine lwp_seq fun K hK => ?_ | (with_reducible refine gA ?_; apply_assumption -exfalso -symm) | refine Stp.h ?_ | refine gF rfl ?_ | refine gG rfl ?_ | refine gM hC rfl ⟨⟩ ?_
      (refine lwp_region hC ⟨[], [], [(2, RTold_i (sumZ (heatsL g l)) (sumZ (lensL l)))]⟩ (told1 _ (by rw [hP]; exact (calls_cons (RTold_s _ _ (by omega) (by omega)) calls_nil))) rfl ?_ ?_; rotate_left 1)
      · repeat first | refine lwp_seq fun K hK => ?_ | (with_reducible refine gA ?_; apply_assumption -exfalso -symm) | refine Stp.h ?_ | refine gF rfl ?_ | refine gG rfl ?_ | refine gM hC rfl sd ?_
        (refine end_intro (by first | exact .inr rfl | exact .inl rfl) [] rfl ?_)
        rw [e]
        exact ⟨rfl, rfl, rfl, trivial⟩
      · exact sd

end Go.Proofs.YtccddhoeampdjaaGreatDoor
