/- Chapter 5: slips, intervals, guesses, aggregates compared. -/
import Derived.Test.YtfmnfagcbehmdaaGreatDoorDm
import Derived.Test.YtfmnfagcbehmdaaGreatDoorSymP
set_option linter.unusedVariables false
set_option linter.unusedSimpArgs false
namespace Go.Proofs.YtfmnfagcbehmdaaGreatDoor
open Go.RowKit Go.Sym

def slipS (r b : Int) : Int := firstS [withinS r 0 500, withinS b 0 10000]
def shareS (d r : Int) : Int := Int.tdiv (d * r + 999) 1000
def absI (d : Int) : Int := max d (0 - d)
/-- The count of a pair's sight, the place of its mark. -/
def cnt (s : List Th) (p : Int × Int) : Int := (thAt s p.1).place
def plc (m : List Th) (p : Int × Int) : Int := (thAt m p.2).place
def wrongS (s : List Th) (r b n : Int) (p : Int × Int) : Int := b + shareS (absI (n - cnt s p)) r
def ivalS (m s : List Th) (r b n : Int) (p : Int × Int) : Int × Int := (plc m p + (n - cnt s p) - wrongS s r b n p, plc m p + (n - cnt s p) + wrongS s r b n p)
def cutS (o x : Int × Int) : Int × Int := (if x.1 > o.1 then x.1 else o.1, if x.2 < o.2 then x.2 else o.2)
def interS (m s : List Th) (r b n : Int) (l : List (Int × Int)) : Nat → Int × Int
  | 0 => (0, 0)
  | k + 1 => if k = 0 then ivalS m s r b n (prAt l 0) else cutS (interS m s r b n l k) (ivalS m s r b n (prAt l k))
def confB (m s : List Th) (r b : Int) (p q : Int × Int) : Bool := decide (max (plc m q - plc m p - (cnt s q - cnt s p)) (cnt s q - cnt s p - (plc m q - plc m p)) > 2 * b + shareS (cnt s q - cnt s p) r)
def innS (m s : List Th) (r b : Int) (l : List (Int × Int)) (i : Nat) : Nat → List (Int × Int)
  | 0 => []
  | k + 1 => innS m s r b l i k ++ if confB m s r b (prAt l i) (prAt l (i + 1 + k)) = true then [((i : Int), ((i + 1 + k : Nat) : Int))] else []
def confsS (m s : List Th) (r b : Int) (l : List (Int × Int)) : Nat → List (Int × Int)
  | 0 => []
  | i + 1 => confsS m s r b l i ++ innS m s r b l i (l.length - 1 - i)
def roundS (a d : Int) : Int := Int.tdiv (2 * a + d) (2 * d)
def stepS (m s : List Th) (n : Int) (a p : Int × Int) : Int := plc m a + roundS ((n - cnt s a) * (plc m p - plc m a)) (cnt s p - cnt s a)
def guessS (m s : List Th) (n : Int) : List (Int × Int) → Int × Int → Int
  | [], a => plc m a + n - cnt s a
  | p :: l, a => if n > cnt s p then guessS m s n l p else if n = cnt s p ∨ a = (-1, -1) then plc m p + n - cnt s p else stepS m s n a p
theorem guessS_drop (m s : List Th) (n : Int) (l : List (Int × Int)) (k : Nat) (h : k < l.length) (a : Int × Int) : guessS m s n (l.drop k) a = if n > cnt s (prAt l k) then guessS m s n (l.drop (k + 1)) (prAt l k) else if n = cnt s (prAt l k) ∨ a = (-1, -1) then plc m (prAt l k) + n - cnt s (prAt l k) else stepS m s n a (prAt l k) := by
  rw [List.drop_eq_getElem_cons h]
  simp only [guessS, prAt, List.getD_eq_getElem?_getD, List.getElem?_eq_getElem h, Option.getD_some]

/-- A valid ride with a valid alignment. -/
structure Good (m s : List Th) (l : List (Int × Int)) : Prop where
  hm : m.length ≤ 64
  hs : s.length ≤ 64
  hl : l.length ≤ 64
  pm : placesOk m
  ps : placesOk s
  p : ∀ i, i < l.length → inS m s (prAt l i)
  up : ∀ i j, i < j → j < l.length → cnt s (prAt l i) < cnt s (prAt l j)
  upm : ∀ i j, i < j → j < l.length → plc m (prAt l i) < plc m (prAt l j)
theorem things_up : ∀ {l : List Th} {last : Int}, thingsS l last = 0 → (l.Pairwise fun x y => x.place < y.place) ∧ ∀ x ∈ l, last < x.place
  | [], _, _ => ⟨.nil, by simp⟩
  | x :: l, last, h => by
    simp only [thingsS] at h
    split at h
    · rename_i hx
      obtain ⟨h1, h2⟩ := things_up h
      have h3 := (thS_zero.1 hx).2.2
      refine ⟨List.pairwise_cons.2 ⟨h2, h1⟩, fun y hy => ?_⟩
      rcases List.mem_cons.1 hy with rfl | hy
      · exact h3
      · exact Int.lt_trans h3 (h2 y hy)
    · rename_i hx; exact absurd h hx
theorem pairE_zero {m s : List Th} {p b : Int × Int} (h : pairE m s p b = 0) : b.1 < p.1 ∧ b.2 < p.2 := by
  unfold pairE at h
  rw [firstS_cons, firstS_cons, whenS_zero (by decide), whenS_zero (by decide)] at h
  have h2 := h.2.1
  by_cases h3 : p.1 ≤ b.1 <;> by_cases h4 : p.2 ≤ b.2 <;> simp [h3, h4] at h2
  omega
theorem pairs_up {m s : List Th} : ∀ {l : List (Int × Int)} {b : Int × Int}, pairsS m s l b = 0 → (l.Pairwise fun x y => x.1 < y.1 ∧ x.2 < y.2) ∧ ∀ x ∈ l, b.1 < x.1 ∧ b.2 < x.2
  | [], _, _ => ⟨.nil, by simp⟩
  | x :: l, b, h => by
    simp only [pairsS] at h
    split at h
    · cases h
    · split at h
      · rename_i hx
        obtain ⟨h1, h2⟩ := pairs_up h
        have h3 := pairE_zero hx
        refine ⟨List.pairwise_cons.2 ⟨h2, h1⟩, fun y hy => ?_⟩
        rcases List.mem_cons.1 hy with rfl | hy
        · exact h3
        · have := h2 y hy; omega
      · rename_i hx; exact absurd h hx
theorem thAt_up {l : List Th} (h : l.Pairwise fun x y => x.place < y.place) {a b : Int} (ha : 0 ≤ a) (hab : a < b) (hb : b < l.length) : (thAt l a).place < (thAt l b).place := by
  unfold thAt
  have h1 : a.toNat < l.length := by omega
  have h2 : b.toNat < l.length := by omega
  rw [List.getD_eq_getElem?_getD, List.getD_eq_getElem?_getD, List.getElem?_eq_getElem h1, List.getElem?_eq_getElem h2]
  exact List.pairwise_iff_getElem.1 h _ _ h1 h2 (by omega)
theorem good_of {m s : List Th} {l : List (Int × Int)} (h : checkPairsS m s l = 0) : Good m s l := by
  unfold checkPairsS at h
  split at h
  · rename_i hf
    unfold frontS at hf
    rw [firstS_cons, firstS_cons, whenS_zero (by decide)] at hf
    have hl : l.length ≤ 64 := by have := of_decide_eq_false hf.2.1; omega
    obtain ⟨h4, h5⟩ := rideS_zero hf.1
    have hp : ∀ i, i < l.length → inS m s (prAt l i) := fun i hi => pairsS_zero h _ (by
      unfold prAt
      rw [List.getD_eq_getElem?_getD, List.getElem?_eq_getElem hi]
      exact List.getElem_mem hi)
    have hup := (pairs_up h).1
    have hpr : ∀ i j, i < j → j < l.length → (prAt l i).1 < (prAt l j).1 ∧ (prAt l i).2 < (prAt l j).2 := fun i j hij hj => by
      have := List.pairwise_iff_getElem.1 hup i j (by omega) hj hij
      unfold prAt
      rw [List.getD_eq_getElem?_getD, List.getD_eq_getElem?_getD, List.getElem?_eq_getElem hj, List.getElem?_eq_getElem (show i < l.length by omega)]
      exact this
    have um : m.Pairwise fun x y => x.place < y.place := by
      unfold checkS at h4
      split at h4
      · cases h4
      · exact (things_up h4).1
    have us : s.Pairwise fun x y => x.place < y.place := by
      unfold checkS at h5
      split at h5
      · cases h5
      · exact (things_up h5).1
    refine ⟨(checkS_zero h4).1, (checkS_zero h5).1, hl, (checkS_zero h4).2, (checkS_zero h5).2, hp, fun i j hij hj => ?_, fun i j hij hj => ?_⟩
    · exact thAt_up us (hp i (by omega)).1.1 (hpr i j hij hj).1 (hp j hj).1.2
    · exact thAt_up um (hp i (by omega)).2.1 (hpr i j hij hj).2 (hp j hj).2.2
  · rename_i hf; exact absurd h hf

theorem mul_bound {a b : Int} (ha : -200000000 ≤ a ∧ a ≤ 200000000) (hb : -200000000 ≤ b ∧ b ≤ 200000000) : -40000000000000000 ≤ a * b ∧ a * b ≤ 40000000000000000 := by
  rcases Int.le_total 0 a with h | h <;> rcases Int.le_total 0 b with h2 | h2
  · have h1 : a * b ≤ a * 200000000 := Int.mul_le_mul_of_nonneg_left hb.2 h
    have h3 : 0 ≤ a * b := Int.mul_nonneg h h2
    omega
  · have h1 : a * (-200000000) ≤ a * b := Int.mul_le_mul_of_nonneg_left hb.1 h
    have h3 : a * b ≤ 0 := Int.mul_nonpos_of_nonneg_of_nonpos h h2
    omega
  · have h1 : (-200000000) * b ≤ a * b := Int.mul_le_mul_of_nonneg_right ha.1 h2
    have h3 : a * b ≤ 0 := Int.mul_nonpos_of_nonpos_of_nonneg h h2
    omega
  · have h1 : a * b ≤ (-200000000) * b := Int.mul_le_mul_of_nonpos_right ha.1 h2
    have h3 : 0 ≤ a * b := Int.mul_nonneg_of_nonpos_of_nonpos h h2
    omega
theorem tdiv_bound {a : Int} {d c : Int} (hd : 0 < d) (h : -c ≤ a ∧ a ≤ c) (hc : 0 ≤ c) : -c ≤ Int.tdiv a d ∧ Int.tdiv a d ≤ c := by
  have h1 : (Int.tdiv a d).natAbs ≤ a.natAbs := by
    rw [Int.natAbs_tdiv]; exact Nat.div_le_self _ _
  omega
theorem shareS_bound {d r : Int} (hd : 0 ≤ d ∧ d ≤ 200000000) (hr : 0 ≤ r ∧ r ≤ 500) : 0 ≤ d * r ∧ d * r ≤ 100000000000 ∧ 0 ≤ shareS d r ∧ shareS d r ≤ 100000001 := by
  have h0 : 0 ≤ d * r := Int.mul_nonneg hd.1 hr.1
  have h1 : d * r ≤ d * 500 := Int.mul_le_mul_of_nonneg_left hr.2 hd.1
  refine ⟨h0, by omega, ?_, ?_⟩
  · unfold shareS; exact Int.tdiv_nonneg (by omega) (by omega)
  · unfold shareS
    rw [Int.tdiv_eq_ediv_of_nonneg (by omega)]
    omega
theorem cnt_bound {s : List Th} (h : placesOk s) (p : Int × Int) : 0 ≤ cnt s p ∧ cnt s p ≤ 100000000 := h p.1
theorem plc_bound {m : List Th} (h : placesOk m) (p : Int × Int) : 0 ≤ plc m p ∧ plc m p ≤ 100000000 := h p.2
theorem abs_bound {a c : Int} (h : -c ≤ a ∧ a ≤ c) : 0 ≤ absI a ∧ absI a ≤ c := by unfold absI; omega
theorem ival_bound {m s : List Th} {r b n : Int} {p : Int × Int} (hm : placesOk m) (hs : placesOk s) (hr : slipS r b = 0) (hn : 0 ≤ n ∧ n ≤ 100000000) : (-1000000000 ≤ (ivalS m s r b n p).1 ∧ (ivalS m s r b n p).1 ≤ 1000000000) ∧ -1000000000 ≤ (ivalS m s r b n p).2 ∧ (ivalS m s r b n p).2 ≤ 1000000000 := by
  unfold slipS at hr
  rw [firstS_cons, firstS_cons, withinS_zero, withinS_zero] at hr
  have h1 := cnt_bound hs p
  have h2 := plc_bound hm p
  have h3 := abs_bound (a := n - cnt s p) (c := 100000000) (by omega)
  have h4 := shareS_bound (d := absI (n - cnt s p)) (r := r) (by omega) hr.1
  unfold ivalS wrongS
  dsimp only
  omega
theorem inter_bound {m s : List Th} {r b n : Int} {l : List (Int × Int)} (hm : placesOk m) (hs : placesOk s) (hr : slipS r b = 0) (hn : 0 ≤ n ∧ n ≤ 100000000) : ∀ k, (-1000000000 ≤ (interS m s r b n l k).1 ∧ (interS m s r b n l k).1 ≤ 1000000000) ∧ -1000000000 ≤ (interS m s r b n l k).2 ∧ (interS m s r b n l k).2 ≤ 1000000000
  | 0 => by unfold interS; omega
  | k + 1 => by
    have h1 := inter_bound (l := l) hm hs hr hn k
    have h2 := ival_bound (p := prAt l k) hm hs hr hn
    have h3 := ival_bound (p := prAt l 0) hm hs hr hn
    unfold interS cutS
    split
    · exact h3
    · dsimp only
      constructor
      · split <;> omega
      · split <;> omega

end Go.Proofs.YtfmnfagcbehmdaaGreatDoor

namespace Go.Proofs.YtfmnfagcbehmdaaGreatDoor
open Go.RowKit Go.Sym

theorem custPair_eqT (a0 c0 : Int) (a1 c1 : Int) : eqT Tryz.prog 20 75 (.agg #[.int .i64 a0, .int .i64 a1]) (.agg #[.int .i64 c0, .int .i64 c1]) = some (a0 == c0 && a1 == c1) := by
  have e : eqT Tryz.prog 20 75 (.agg #[.int .i64 a0, .int .i64 a1]) (.agg #[.int .i64 c0, .int .i64 c1]) = (match some (a0 == c0) with | some true => (match some (a1 == c1) with | some true => some true | some false => some false | none => none) | some false => some false | none => none) := by kernel_rfl
  rw [e]
  cases a0 == c0 <;> cases a1 == c1 <;> rfl
def custPair : Custom := ⟨fun o l => match o.op, l with
  | .binOp .eql t _ _ _, [.agg [.lit (.int .i64 a0), .lit (.int .i64 a1)], .agg [.lit (.int .i64 c0), .lit (.int .i64 c1)]] => match Nat.beq t 75 with
    | true => some (.lit (.bool (a0 == c0 && a1 == c1)))
    | false => none
  | _, _ => none⟩
theorem custPair_ok : custPair.ok Tryz.prog := by
  intro o l r h ρ w e vs hd hv
  dsimp only [custPair] at h
  split at h
  · rename_i t x y yt a0 a1 c0 c1 ho
    split at h
    · rename_i ht
      cases Nat.eq_of_beq_eq_true ht
      cases h
      simp only [AV.denL, AV.den, listO, Option.map_some, Option.some.injEq] at hd
      subst hd
      rw [ho] at hv
      simp only [Op.operands, List.map_cons, List.map_nil, List.cons.injEq, and_true] at hv
      obtain ⟨e1, e2⟩ := hv
      refine ⟨_, rfl, ?_⟩
      have hg : Tryz.prog.eqGuardType Tryz.prog.depth 75 = false := by kernel_rfl
      have hb : binV Tryz.prog .eql 75 (.agg #[.int .i64 a0, .int .i64 a1]) (.agg #[.int .i64 c0, .int .i64 c1]) = some (.bool (a0 == c0 && a1 == c1)) := by
        simp only [binV, hg, custPair_eqT]
        try rfl
      have := binV_run hb x y w
      simp only [execOp, ho, Sem.run_bind, e1, e2] at this ⊢
      rw [this]
      rfl
    · cases h
  · cases h

theorem custTwo_eqT (a0 c0 : Int) (a1 c1 : Int) (a2 c2 : Int) (a3 c3 : Int) : eqT Tryz.prog 20 190 (.agg #[.int .i64 a0, .int .i64 a1, .int .i64 a2, .int .i64 a3]) (.agg #[.int .i64 c0, .int .i64 c1, .int .i64 c2, .int .i64 c3]) = some (a0 == c0 && a1 == c1 && a2 == c2 && a3 == c3) := by
  have e : eqT Tryz.prog 20 190 (.agg #[.int .i64 a0, .int .i64 a1, .int .i64 a2, .int .i64 a3]) (.agg #[.int .i64 c0, .int .i64 c1, .int .i64 c2, .int .i64 c3]) = (match (match some (a0 == c0) with | some true => (match some (a1 == c1) with | some true => some true | some false => some false | none => none) | some false => some false | none => none) with | some true => (match (match some (a2 == c2) with | some true => (match some (a3 == c3) with | some true => some true | some false => some false | none => none) | some false => some false | none => none) with | some true => some true | some false => some false | none => none) | some false => some false | none => none) := by kernel_rfl
  rw [e]
  cases a0 == c0 <;> cases a1 == c1 <;> cases a2 == c2 <;> cases a3 == c3 <;> rfl
def custTwo : Custom := ⟨fun o l => match o.op, l with
  | .binOp .neq t _ _ _, [.agg [.lit (.int .i64 a0), .lit (.int .i64 a1), .lit (.int .i64 a2), .lit (.int .i64 a3)], .agg [.lit (.int .i64 c0), .lit (.int .i64 c1), .lit (.int .i64 c2), .lit (.int .i64 c3)]] => match Nat.beq t 190 with
    | true => some (.lit (.bool (!(a0 == c0 && a1 == c1 && a2 == c2 && a3 == c3))))
    | false => none
  | _, _ => none⟩
theorem custTwo_ok : custTwo.ok Tryz.prog := by
  intro o l r h ρ w e vs hd hv
  dsimp only [custTwo] at h
  split at h
  · rename_i t x y yt a0 a1 a2 a3 c0 c1 c2 c3 ho
    split at h
    · rename_i ht
      cases Nat.eq_of_beq_eq_true ht
      cases h
      simp only [AV.denL, AV.den, listO, Option.map_some, Option.some.injEq] at hd
      subst hd
      rw [ho] at hv
      simp only [Op.operands, List.map_cons, List.map_nil, List.cons.injEq, and_true] at hv
      obtain ⟨e1, e2⟩ := hv
      refine ⟨_, rfl, ?_⟩
      have hg : Tryz.prog.eqGuardType Tryz.prog.depth 190 = false := by kernel_rfl
      have hb : binV Tryz.prog .neq 190 (.agg #[.int .i64 a0, .int .i64 a1, .int .i64 a2, .int .i64 a3]) (.agg #[.int .i64 c0, .int .i64 c1, .int .i64 c2, .int .i64 c3]) = some (.bool (!(a0 == c0 && a1 == c1 && a2 == c2 && a3 == c3))) := by
        simp only [binV, hg, custTwo_eqT]
        try rfl
      have := binV_run hb x y w
      simp only [execOp, ho, Sem.run_bind, e1, e2] at this ⊢
      rw [this]
      rfl
    · cases h
  · cases h

theorem custIv_eqT (a0 c0 : Int) (a1 c1 : Int) : eqT Tryz.prog 20 95 (.agg #[.int .i64 a0, .int .i64 a1]) (.agg #[.int .i64 c0, .int .i64 c1]) = some (a0 == c0 && a1 == c1) := by
  have e : eqT Tryz.prog 20 95 (.agg #[.int .i64 a0, .int .i64 a1]) (.agg #[.int .i64 c0, .int .i64 c1]) = (match some (a0 == c0) with | some true => (match some (a1 == c1) with | some true => some true | some false => some false | none => none) | some false => some false | none => none) := by kernel_rfl
  rw [e]
  cases a0 == c0 <;> cases a1 == c1 <;> rfl
def custIv : Custom := ⟨fun o l => match o.op, l with
  | .binOp .eql t _ _ _, [.agg [.lit (.int .i64 a0), .lit (.int .i64 a1)], .agg [.lit (.int .i64 c0), .lit (.int .i64 c1)]] => match Nat.beq t 95 with
    | true => some (.lit (.bool (a0 == c0 && a1 == c1)))
    | false => none
  | _, _ => none⟩
theorem custIv_ok : custIv.ok Tryz.prog := by
  intro o l r h ρ w e vs hd hv
  dsimp only [custIv] at h
  split at h
  · rename_i t x y yt a0 a1 c0 c1 ho
    split at h
    · rename_i ht
      cases Nat.eq_of_beq_eq_true ht
      cases h
      simp only [AV.denL, AV.den, listO, Option.map_some, Option.some.injEq] at hd
      subst hd
      rw [ho] at hv
      simp only [Op.operands, List.map_cons, List.map_nil, List.cons.injEq, and_true] at hv
      obtain ⟨e1, e2⟩ := hv
      refine ⟨_, rfl, ?_⟩
      have hg : Tryz.prog.eqGuardType Tryz.prog.depth 95 = false := by kernel_rfl
      have hb : binV Tryz.prog .eql 95 (.agg #[.int .i64 a0, .int .i64 a1]) (.agg #[.int .i64 c0, .int .i64 c1]) = some (.bool (a0 == c0 && a1 == c1)) := by
        simp only [binV, hg, custIv_eqT]
        try rfl
      have := binV_run hb x y w
      simp only [execOp, ho, Sem.run_bind, e1, e2] at this ⊢
      rw [this]
      rfl
    · cases h
  · cases h

theorem custI2_eqT (a0 c0 : Int) (a1 c1 : Int) : eqT Tryz.prog 20 115 (.agg #[.int .i64 a0, .int .i64 a1]) (.agg #[.int .i64 c0, .int .i64 c1]) = some (a0 == c0 && a1 == c1) := by
  have e : eqT Tryz.prog 20 115 (.agg #[.int .i64 a0, .int .i64 a1]) (.agg #[.int .i64 c0, .int .i64 c1]) = (match some (a0 == c0) with | some true => (match some (a1 == c1) with | some true => some true | some false => some false | none => none) | some false => some false | none => none) := by kernel_rfl
  rw [e]
  cases a0 == c0 <;> cases a1 == c1 <;> rfl
def custI2 : Custom := ⟨fun o l => match o.op, l with
  | .binOp .neq t _ _ _, [.agg [.lit (.int .i64 a0), .lit (.int .i64 a1)], .agg [.lit (.int .i64 c0), .lit (.int .i64 c1)]] => match Nat.beq t 115 with
    | true => some (.lit (.bool (!(a0 == c0 && a1 == c1))))
    | false => none
  | _, _ => none⟩
theorem custI2_ok : custI2.ok Tryz.prog := by
  intro o l r h ρ w e vs hd hv
  dsimp only [custI2] at h
  split at h
  · rename_i t x y yt a0 a1 c0 c1 ho
    split at h
    · rename_i ht
      cases Nat.eq_of_beq_eq_true ht
      cases h
      simp only [AV.denL, AV.den, listO, Option.map_some, Option.some.injEq] at hd
      subst hd
      rw [ho] at hv
      simp only [Op.operands, List.map_cons, List.map_nil, List.cons.injEq, and_true] at hv
      obtain ⟨e1, e2⟩ := hv
      refine ⟨_, rfl, ?_⟩
      have hg : Tryz.prog.eqGuardType Tryz.prog.depth 115 = false := by kernel_rfl
      have hb : binV Tryz.prog .neq 115 (.agg #[.int .i64 a0, .int .i64 a1]) (.agg #[.int .i64 c0, .int .i64 c1]) = some (.bool (!(a0 == c0 && a1 == c1))) := by
        simp only [binV, hg, custI2_eqT]
        try rfl
      have := binV_run hb x y w
      simp only [execOp, ho, Sem.run_bind, e1, e2] at this ⊢
      rw [this]
      rfl
    · cases h
  · cases h

theorem custRPair_eqT (a0 c0 : Int) (a1 c1 : Int) : eqT Tryz.prog 20 76 (.agg #[.int .i64 a0, .int .i64 a1]) (.agg #[.int .i64 c0, .int .i64 c1]) = some (a0 == c0 && a1 == c1) := by
  have e : eqT Tryz.prog 20 76 (.agg #[.int .i64 a0, .int .i64 a1]) (.agg #[.int .i64 c0, .int .i64 c1]) = (match some (a0 == c0) with | some true => (match some (a1 == c1) with | some true => some true | some false => some false | none => none) | some false => some false | none => none) := by kernel_rfl
  rw [e]
  cases a0 == c0 <;> cases a1 == c1 <;> rfl
def custRPair : Custom := ⟨fun o l => match o.op, l with
  | .binOp .neq t _ _ _, [.agg [.lit (.int .i64 a0), .lit (.int .i64 a1)], .agg [.lit (.int .i64 c0), .lit (.int .i64 c1)]] => match Nat.beq t 76 with
    | true => some (.lit (.bool (!(a0 == c0 && a1 == c1))))
    | false => none
  | _, _ => none⟩
theorem custRPair_ok : custRPair.ok Tryz.prog := by
  intro o l r h ρ w e vs hd hv
  dsimp only [custRPair] at h
  split at h
  · rename_i t x y yt a0 a1 c0 c1 ho
    split at h
    · rename_i ht
      cases Nat.eq_of_beq_eq_true ht
      cases h
      simp only [AV.denL, AV.den, listO, Option.map_some, Option.some.injEq] at hd
      subst hd
      rw [ho] at hv
      simp only [Op.operands, List.map_cons, List.map_nil, List.cons.injEq, and_true] at hv
      obtain ⟨e1, e2⟩ := hv
      refine ⟨_, rfl, ?_⟩
      have hg : Tryz.prog.eqGuardType Tryz.prog.depth 76 = false := by kernel_rfl
      have hb : binV Tryz.prog .neq 76 (.agg #[.int .i64 a0, .int .i64 a1]) (.agg #[.int .i64 c0, .int .i64 c1]) = some (.bool (!(a0 == c0 && a1 == c1))) := by
        simp only [binV, hg, custRPair_eqT]
        try rfl
      have := binV_run hb x y w
      simp only [execOp, ho, Sem.run_bind, e1, e2] at this ⊢
      rw [this]
      rfl
    · cases h
  · cases h

theorem custMark_eqT (a0 c0 : ByteArray) (a1 c1 : Int) : eqT Tryz.prog 20 122 (.agg #[.string a0, .int .i64 a1]) (.agg #[.string c0, .int .i64 c1]) = some (a0 == c0 && a1 == c1) := by
  have e : eqT Tryz.prog 20 122 (.agg #[.string a0, .int .i64 a1]) (.agg #[.string c0, .int .i64 c1]) = (match some (a0 == c0) with | some true => (match some (a1 == c1) with | some true => some true | some false => some false | none => none) | some false => some false | none => none) := by kernel_rfl
  rw [e]
  cases a0 == c0 <;> cases a1 == c1 <;> rfl
def custMark : Custom := ⟨fun o l => match o.op, l with
  | .binOp .neq t _ _ _, [.agg [.lit (.string a0), .lit (.int .i64 a1)], .agg [.lit (.string c0), .lit (.int .i64 c1)]] => match Nat.beq t 122 with
    | true => some (.lit (.bool (!(a0 == c0 && a1 == c1))))
    | false => none
  | _, _ => none⟩
theorem custMark_ok : custMark.ok Tryz.prog := by
  intro o l r h ρ w e vs hd hv
  dsimp only [custMark] at h
  split at h
  · rename_i t x y yt a0 a1 c0 c1 ho
    split at h
    · rename_i ht
      cases Nat.eq_of_beq_eq_true ht
      cases h
      simp only [AV.denL, AV.den, listO, Option.map_some, Option.some.injEq] at hd
      subst hd
      rw [ho] at hv
      simp only [Op.operands, List.map_cons, List.map_nil, List.cons.injEq, and_true] at hv
      obtain ⟨e1, e2⟩ := hv
      refine ⟨_, rfl, ?_⟩
      have hg : Tryz.prog.eqGuardType Tryz.prog.depth 122 = false := by kernel_rfl
      have hb : binV Tryz.prog .neq 122 (.agg #[.string a0, .int .i64 a1]) (.agg #[.string c0, .int .i64 c1]) = some (.bool (!(a0 == c0 && a1 == c1))) := by
        simp only [binV, hg, custMark_eqT]
        try rfl
      have := binV_run hb x y w
      simp only [execOp, ho, Sem.run_bind, e1, e2] at this ⊢
      rw [this]
      rfl
    · cases h
  · cases h

theorem custSight_eqT (a0 c0 : ByteArray) (a1 c1 : Int) : eqT Tryz.prog 20 124 (.agg #[.string a0, .int .i64 a1]) (.agg #[.string c0, .int .i64 c1]) = some (a0 == c0 && a1 == c1) := by
  have e : eqT Tryz.prog 20 124 (.agg #[.string a0, .int .i64 a1]) (.agg #[.string c0, .int .i64 c1]) = (match some (a0 == c0) with | some true => (match some (a1 == c1) with | some true => some true | some false => some false | none => none) | some false => some false | none => none) := by kernel_rfl
  rw [e]
  cases a0 == c0 <;> cases a1 == c1 <;> rfl
def custSight : Custom := ⟨fun o l => match o.op, l with
  | .binOp .neq t _ _ _, [.agg [.lit (.string a0), .lit (.int .i64 a1)], .agg [.lit (.string c0), .lit (.int .i64 c1)]] => match Nat.beq t 124 with
    | true => some (.lit (.bool (!(a0 == c0 && a1 == c1))))
    | false => none
  | _, _ => none⟩
theorem custSight_ok : custSight.ok Tryz.prog := by
  intro o l r h ρ w e vs hd hv
  dsimp only [custSight] at h
  split at h
  · rename_i t x y yt a0 a1 c0 c1 ho
    split at h
    · rename_i ht
      cases Nat.eq_of_beq_eq_true ht
      cases h
      simp only [AV.denL, AV.den, listO, Option.map_some, Option.some.injEq] at hd
      subst hd
      rw [ho] at hv
      simp only [Op.operands, List.map_cons, List.map_nil, List.cons.injEq, and_true] at hv
      obtain ⟨e1, e2⟩ := hv
      refine ⟨_, rfl, ?_⟩
      have hg : Tryz.prog.eqGuardType Tryz.prog.depth 124 = false := by kernel_rfl
      have hb : binV Tryz.prog .neq 124 (.agg #[.string a0, .int .i64 a1]) (.agg #[.string c0, .int .i64 c1]) = some (.bool (!(a0 == c0 && a1 == c1))) := by
        simp only [binV, hg, custSight_eqT]
        try rfl
      have := binV_run hb x y w
      simp only [execOp, ho, Sem.run_bind, e1, e2] at this ⊢
      rw [this]
      rfl
    · cases h
  · cases h

end Go.Proofs.YtfmnfagcbehmdaaGreatDoor

namespace Go.Proofs.YtfmnfagcbehmdaaGreatDoor
open Go.RowKit Go.Sym

theorem lastPr_not {m s : List Th} {l : List (Int × Int)} (h : Good m s l) {k : Nat} (hk : k < l.length) : prAt l k ≠ (-1, -1) := by
  intro e
  have := (h.p k hk).1.1
  rw [e] at this
  exact absurd this (by decide)
theorem guess_first {m s : List Th} {n : Int} {l : List (Int × Int)} (h0 : 0 < l.length) (hn : n ≤ cnt s (prAt l 0)) : guessS m s n l (-1, -1) = plc m (prAt l 0) + n - cnt s (prAt l 0) := by
  have := guessS_drop m s n l 0 h0 (-1, -1)
  rw [List.drop_zero] at this
  rw [this, if_neg (by omega), if_pos (.inr rfl)]
theorem guess_last {m s : List Th} {n : Int} {l : List (Int × Int)} {k : Nat} {a : Int × Int} (hk : k + 1 = l.length) (hn : cnt s (prAt l k) ≤ n) : guessS m s n (l.drop k) a = plc m (prAt l k) + n - cnt s (prAt l k) := by
  rw [guessS_drop m s n l k (by omega)]
  by_cases h : n > cnt s (prAt l k)
  · rw [if_pos h, List.drop_of_length_le (by omega)]
    rfl
  · rw [if_neg h, if_pos (.inl (by omega))]
theorem round_zero {d : Int} (hd : 0 < d) : roundS 0 d = 0 := by
  unfold roundS
  rw [Int.tdiv_eq_ediv_of_nonneg (by omega)]
  exact Int.ediv_eq_zero_of_lt (by omega) (by omega)
theorem guess_mid {m s : List Th} {n : Int} {l : List (Int × Int)} (h : Good m s l) {k : Nat} {a : Int × Int} (hk : k + 1 < l.length) (hn : cnt s (prAt l k) ≤ n) (hn2 : n < cnt s (prAt l (k + 1))) (ha : a = (-1, -1) → cnt s (prAt l k) < n) : guessS m s n (l.drop k) a = stepS m s n (prAt l k) (prAt l (k + 1)) := by
  rw [guessS_drop m s n l k (by omega)]
  by_cases h1 : n > cnt s (prAt l k)
  · rw [if_pos h1, guessS_drop m s n l (k + 1) hk, if_neg (by omega), if_neg (fun h2 => ?_)]
    rcases h2 with h2 | h2
    · omega
    · exact lastPr_not h (by omega) h2
  · have e : n = cnt s (prAt l k) := by omega
    rw [if_neg h1, if_pos (.inl e)]
    unfold stepS
    rw [show n - cnt s (prAt l k) = 0 by omega, Int.zero_mul, round_zero (by omega)]
    omega
theorem guess_next {m s : List Th} {n : Int} {l : List (Int × Int)} {k : Nat} {a : Int × Int} (hk : k < l.length) (hn : cnt s (prAt l k) < n) : guessS m s n (l.drop k) a = guessS m s n (l.drop (k + 1)) (prAt l k) := by
  rw [guessS_drop m s n l k hk, if_pos hn]

theorem round_bound {a d : Int} (ha : -40000000000000000 ≤ a ∧ a ≤ 40000000000000000) (hd : 0 < d ∧ d ≤ 200000000) : -90000000000000000 ≤ roundS a d ∧ roundS a d ≤ 90000000000000000 := by
  unfold roundS
  exact tdiv_bound (by omega) (by omega) (by omega)
def Rounded_i (a d : Int) : Inst := { f := 150, hin := [], args := [i64 a, i64 d], hout := [], ret := i64 (roundS a d), σ := [] }
theorem Rounded_s (a d : Int) (ha : -40000000000000000 ≤ a ∧ a ≤ 40000000000000000) (hd : 0 < d ∧ d ≤ 200000000) : (Rounded_i a d).ok Tryz.prog := by
  have hB := round_bound ha hd
  unfold roundS at hB
  unfold Rounded_i Inst.ok; dsimp only; refine spec_of_body (tys := tys) 0 Tryz.func150 (by kernel_rfl) rfl tys_ok rfl (Nat.le_of_ble_eq_true rfl) (fun _ _ h => (by cases h)) fun F hP hm hC hrd => ?_; conv => whnf
  repeat first | refine lwp_seq fun K hK => ?_ | ((with_reducible refine gA ?_); apply_assumption -exfalso -symm) | refine gB ?_ | refine gC ?_ | refine gD ?_ | refine gE ?_ | refine gF rfl ?_ | refine gG rfl ?_ | refine gH ?_ | refine gI ?_ | refine gJ ?_ | refine gK ?_ | refine gL ?_ | refine gM hC rfl ⟨⟩ ?_ | refine gM hC rfl (by exact sd) ?_
  all_goals first | exact sd | skip
  (refine end_intro (by first | exact .inr rfl | exact .inl rfl) [] rfl ?_)
  exact ⟨rfl, trivial⟩
theorem floor_le {a d : Int} (ha : 0 ≤ a) (hd : 0 < d) : 0 ≤ Int.tdiv a d ∧ 0 ≤ Int.tdiv a d * d ∧ Int.tdiv a d * d ≤ a := by
  rw [Int.tdiv_eq_ediv_of_nonneg ha]
  exact ⟨Int.ediv_nonneg ha (by omega), Int.mul_nonneg (Int.ediv_nonneg ha (by omega)) (by omega), Int.ediv_mul_le a (by omega)⟩

end Go.Proofs.YtfmnfagcbehmdaaGreatDoor
