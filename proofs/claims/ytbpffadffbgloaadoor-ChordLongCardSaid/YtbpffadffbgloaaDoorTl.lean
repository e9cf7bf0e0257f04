/- The plain law of ChordLong: readings that are weighted are readings by longer arms. No program in sight. -/
import Derived.Test.YtbpffadffbgloaaDoorTg
import Derived.Test.YtbpffadffbgloaaDoorRt
import Derived.Test.YtbpffadffbgloaaDoorRe
set_option linter.unusedVariables false
set_option linter.unusedSimpArgs false
namespace Go.Proofs.YtbpffadffbgloaaDoor

theorem summedL_at (vs : List (Int × Bool)) (ws : List Int) (before after step : Int) (i : Nat) (h : i < (summedL vs ws before after step).length) : (summedL vs ws before after step).getD i (0, false) = wsum vs ws step i := by
  rw [summedL_len] at h
  simp [summedL, h]
/-- A sum whose weights are all there. -/
theorem wsum_eq (vs : List (Int × Bool)) (ws : List Int) (step : Int) (q : Nat) (h : ∀ k : Nat, k < ws.length → ws.getD k 0 ≠ 0) :
    wsum vs ws step q = (Sg ws.length (fun k => ws.getD k 0 * (vs.getD ((q : Int) + (k : Int) * step).toNat (0, false)).1), Al ws.length (fun k => (vs.getD ((q : Int) + (k : Int) * step).toNat (0, false)).2)) := by
  have e : wsum vs ws step q = (List.range ws.length).foldl (fun s k => (s.1 + ws.getD k 0 * (vs.getD ((q : Int) + (k : Int) * step).toNat (0, false)).1, s.2 && (vs.getD ((q : Int) + (k : Int) * step).toNat (0, false)).2)) (0, true) := by
    unfold wsum
    refine foldl_mem_congr _ _ _ _ fun s k hk => ?_
    unfold wstep
    rw [if_neg (h k (List.mem_range.1 hk))]
  rw [e, fold_sum (fun k => ws.getD k 0) (fun k => vs.getD ((q : Int) + (k : Int) * step).toNat (0, false))]
  simp

/-- Second differences under the weights of a chord. -/
theorem tent (v : Nat → Int) (b a : Int) (b1 : 1 ≤ b) (b5 : b ≤ 5) (a1 : 1 ≤ a) (a5 : a ≤ 5) :
    Sg (b + a - 1).toNat (fun (k : Nat) => weightS b a (1 - b + (k : Int)) * (2 * v (k + 1) - v k - v (k + 2))) = (b + a) * v b.toNat - a * v 0 - b * v (b + a).toNat := by
  obtain rfl | rfl | rfl | rfl | rfl : b = 1 ∨ b = 2 ∨ b = 3 ∨ b = 4 ∨ b = 5 := by omega
  all_goals obtain rfl | rfl | rfl | rfl | rfl : a = 1 ∨ a = 2 ∨ a = 3 ∨ a = 4 ∨ a = 5 := by omega
  all_goals
    simp [Sg, weightS]
    try omega
def sumI (l : List Int) : Int := l.foldl (· + ·) 0
theorem sumI_snoc (l : List Int) (x : Int) : sumI (l ++ [x]) = sumI l + x := by simp [sumI]
theorem sumI_take {l : List Int} (h : ∀ k : Nat, -4096 ≤ l.getD k 0 ∧ l.getD k 0 ≤ 4096) : ∀ k : Nat, k ≤ l.length → -(4096 * (k : Int)) ≤ sumI (l.take k) ∧ sumI (l.take k) ≤ 4096 * (k : Int)
  | 0, _ => by simp [sumI]
  | k + 1, hk => by
    have ih := sumI_take h k (by omega)
    have := h k
    rw [take_snoc _ 0 _ (by omega), sumI_snoc]
    omega
theorem weights_sum (b a : Int) (b1 : 1 ≤ b) (b5 : b ≤ 5) (a1 : 1 ≤ a) (a5 : a ≤ 5) : 2 * sumI (weightsS b a) = b * a * (b + a) := by
  obtain rfl | rfl | rfl | rfl | rfl : b = 1 ∨ b = 2 ∨ b = 3 ∨ b = 4 ∨ b = 5 := by omega
  all_goals obtain rfl | rfl | rfl | rfl | rfl : a = 1 ∨ a = 2 ∨ a = 3 ∨ a = 4 ∨ a = 5 := by omega
  all_goals decide

/-- Two traces have the same places, and the same values where both are known. -/
def agreeB (x y : Tr) : Bool := decide (traceS x = 0) && decide (traceS y = 0) && decide (x.first = y.first) && decide (x.vals.length = y.vals.length) && (List.range x.vals.length).all fun (i : Nat) => !(knownB x.holes i && knownB y.holes i) || decide (x.vals.getD i 0 = y.vals.getD i 0)
theorem agree_made {f : Int} {X U : List (Int × Bool)} (hX : X.any badS = false) (hU : U.any badS = false) (f0 : 0 ≤ f) (f1 : f + X.length ≤ 100000000) (hl : X.length ≤ 4096) (hlen : X.length = U.length)
    (h : ∀ i : Nat, i < X.length → (X.getD i (0, false)).2 = true → (U.getD i (0, false)).2 = true → (X.getD i (0, false)).1 = (U.getD i (0, false)).1) : agreeB ⟨f, (addAll X).1, (addAll X).2⟩ ⟨f, (addAll U).1, (addAll U).2⟩ = true := by
  unfold agreeB
  rw [made_valid hX f0 f1 hl, made_valid hU f0 (by rw [← hlen]; exact f1) (by rw [← hlen]; exact hl)]
  simp only [decide_true, Bool.true_and, (addAll_len X).1, (addAll_len U).1, decide_eq_true hlen]
  rw [List.all_eq_true]
  intro i hi
  have hi := List.mem_range.1 hi
  have hi2 : i < U.length := hlen ▸ hi
  rw [(addAll_inv X).2.2 i hi, (addAll_inv U).2.2 i hi2, made_get i hi, made_get i hi2]
  have := h i hi
  cases hx : (X.getD i (0, false)).2 with
  | false => rfl
  | true =>
    cases hu : (U.getD i (0, false)).2 with
    | false => rfl
    | true => rw [if_pos rfl, if_pos rfl, this hx hu]; simp

/-- The values of a trace are small. -/
def SmallV (vs : List (Int × Bool)) : Prop := ∀ i : Nat, -20000 ≤ (vs.getD i (0, false)).1 ∧ (vs.getD i (0, false)).1 ≤ 20000
theorem smallV_of {l : List Int} (h : ∀ x ∈ l, -20000 ≤ x ∧ x ≤ 20000) (hs : List (Int × Int)) : SmallV (valuesS l hs) := by
  intro i
  by_cases hi : i < l.length
  · rw [valuesS_get _ _ _ hi]
    simp only [List.getD_eq_getElem?_getD, List.getElem?_eq_getElem hi, Option.getD_some]
    exact h _ (List.getElem_mem hi)
  · rw [List.getD_eq_getElem?_getD, List.getElem?_eq_none (by rw [valuesS_len]; omega)]
    exact ⟨by decide, by decide⟩
theorem good_of {L : List (Int × Bool)} (h : ∀ i : Nat, i < L.length → (L.getD i (0, false)).2 = true → -1073741824 ≤ (L.getD i (0, false)).1 ∧ (L.getD i (0, false)).1 ≤ 1073741824) : L.any badS = false := by
  rw [List.any_eq_false]
  intro x hx
  obtain ⟨i, hi, rfl⟩ := List.mem_iff_getElem.1 hx
  have := h i hi
  simp only [List.getD_eq_getElem?_getD, List.getElem?_eq_getElem hi, Option.getD_some] at this
  unfold badS
  cases hk : L[i].2 with
  | false => simp
  | true =>
    have e : readingS L[i].1 = 0 := by unfold readingS; rw [withinS_eq]; exact this hk
    rw [e]; simp

/-- Versines of small values are a made trace. -/
theorem vers_made {t : Tr} {b a : Int} (hok : TrOk t) (hb : 1 ≤ b) (hb2 : b ≤ 20) (ha : 1 ≤ a) (ha2 : a ≤ 20) (hs : SmallV (valuesS t.vals t.holes)) (hn : b + a < t.vals.length) :
    let U := summedL (valuesS t.vals t.holes) (versW b a) b a 1
    U.length = t.vals.length - (b + a).toNat ∧ U.any badS = false ∧ (∀ i : Nat, i < U.length → U.getD i (0, false) = wsum (valuesS t.vals t.holes) (versW b a) 1 i) ∧ RVersinesS b a t = (⟨t.first + b, (addAll U).1, (addAll U).2⟩, 0) := by
  intro U
  have hlen : U.length = t.vals.length - (b + a).toNat := by rw [summedL_len, valuesS_len]; omega
  have hget : ∀ i : Nat, i < U.length → U.getD i (0, false) = wsum (valuesS t.vals t.holes) (versW b a) 1 i := fun i hi => summedL_at _ _ _ _ _ _ hi
  have hbad : U.any badS = false := by
    refine good_of fun i hi _ => ?_
    rw [hget i hi, wsum_vers _ _ _ _ hb ha]
    have h1 := hs (i + b.toNat)
    have h2 := hs i
    have h3 := hs (i + (b + a).toNat)
    dsimp only
    generalize ((valuesS t.vals t.holes).getD (i + b.toNat) (0, false)).1 = x at *
    generalize ((valuesS t.vals t.holes).getD i (0, false)).1 = y at *
    generalize ((valuesS t.vals t.holes).getD (i + (b + a).toNat) (0, false)).1 = z at *
    have m1 := mul_small (a := b + a) (b := x) (by omega) (by omega) (by omega) (by omega)
    have k1 : -800000 ≤ (b + a) * x ∧ (b + a) * x ≤ 800000 := by
      have := Int.natAbs_mul (b + a) x
      have h5 : (b + a).natAbs ≤ 40 := by omega
      have h6 : x.natAbs ≤ 20000 := by omega
      have h7 := Nat.mul_le_mul h5 h6
      generalize (b + a) * x = c at *
      generalize (b + a).natAbs * x.natAbs = d at *
      omega
    have k2 : -400000 ≤ -a * y ∧ -a * y ≤ 400000 := by
      have := Int.natAbs_mul (-a) y
      have h5 : (-a).natAbs ≤ 20 := by omega
      have h6 : y.natAbs ≤ 20000 := by omega
      have h7 := Nat.mul_le_mul h5 h6
      generalize -a * y = c at *
      generalize (-a).natAbs * y.natAbs = d at *
      omega
    have k3 : -400000 ≤ -b * z ∧ -b * z ≤ 400000 := by
      have := Int.natAbs_mul (-b) z
      have h5 : (-b).natAbs ≤ 20 := by omega
      have h6 : z.natAbs ≤ 20000 := by omega
      have h7 := Nat.mul_le_mul h5 h6
      generalize -b * z = c at *
      generalize (-b).natAbs * z.natAbs = d at *
      omega
    omega
  refine ⟨hlen, hbad, hget, ?_⟩
  show summedS _ _ _ _ _ _ = _
  unfold summedS
  rw [if_neg (show ¬ U.length = 0 by omega)]
  show madeS _ U = _
  unfold madeS
  rw [hbad]; rfl

/-- Readings by two equal arms, lengthened, are those by the long arms where both are known. -/
theorem long_agree {t : Tr} {b a s : Int} (hok : TrOk t) (b1 : 1 ≤ b) (b5 : b ≤ 5) (a1 : 1 ≤ a) (a5 : a ≤ 5) (s1 : 1 ≤ s) (s4 : s ≤ 4) (hv : ∀ x ∈ t.vals, -20000 ≤ x ∧ x ≤ 20000) (hn : s * (b + a) < t.vals.length) :
    (RVersinesS s s t).2 = 0 ∧ traceS (RVersinesS s s t).1 = 0 ∧ (RWeightedS b a s (RVersinesS s s t).1).2 = 0 ∧ (RVersinesS (s * b) (s * a) t).2 = 0 ∧ agreeB (RWeightedS b a s (RVersinesS s s t).1).1 (RVersinesS (s * b) (s * a) t).1 = true := by
  have hs := smallV_of hv t.holes
  have f0 := hok.f0
  have f1 := hok.end_
  have fl := hok.len
  have sb : 1 ≤ s * b ∧ s * b ≤ 20 ∧ 1 ≤ s * a ∧ s * a ≤ 20 ∧ s * (b + a) = s * b + s * a ∧ s * b = b * s ∧ s * a = a * s ∧ (b - 1) * s = s * b - s ∧ (a - 1) * s = s * a - s ∧ s + s ≤ s * (b + a) := by
    obtain rfl | rfl | rfl | rfl : s = 1 ∨ s = 2 ∨ s = 3 ∨ s = 4 := by omega
    all_goals omega
  obtain ⟨p1, p2, p3, p4, p5, p6, p7, p8, p9, p10⟩ := sb
  obtain ⟨S1, S2, S3, S4⟩ := vers_made (b := s) (a := s) hok (by omega) (by omega) (by omega) (by omega) hs (by omega)
  obtain ⟨D1, D2, D3, D4⟩ := vers_made (b := s * b) (a := s * a) hok p1 p2 p3 p4 hs (by omega)
  rw [S4, D4]
  generalize hS : summedL (valuesS t.vals t.holes) (versW s s) s s 1 = S at *
  generalize hD : summedL (valuesS t.vals t.holes) (versW (s * b) (s * a)) (s * b) (s * a) 1 = D at *
  clear hS hD S4 D4
  dsimp only
  have hSv : traceS ⟨t.first + s, (addAll S).1, (addAll S).2⟩ = 0 := made_valid S2 (by omega) (by omega) (by omega)
  refine ⟨rfl, hSv, ?_⟩
  have hVS : valuesS (addAll S).1 (addAll S).2 = S.map fun x => (if x.2 then x.1 else 0, x.2) := made_values S
  have hVSg : ∀ q : Nat, q < S.length → (valuesS (addAll S).1 (addAll S).2).getD q (0, false) = (if (S.getD q (0, false)).2 then (S.getD q (0, false)).1 else 0, (S.getD q (0, false)).2) := by
    intro q hq
    rw [hVS]
    simp only [List.getD_eq_getElem?_getD, List.getElem?_map, List.getElem?_eq_getElem hq, Option.map_some, Option.getD_some]
  have hVSl : (valuesS (addAll S).1 (addAll S).2).length = S.length := by rw [hVS, List.length_map]
  have hR : RWeightedS b a s ⟨t.first + s, (addAll S).1, (addAll S).2⟩ = summedS (t.first + s) (valuesS (addAll S).1 (addAll S).2) (weightsS b a) ((b - 1) * s) ((a - 1) * s) s := rfl
  rw [hR]
  have hLl : (summedL (valuesS (addAll S).1 (addAll S).2) (weightsS b a) ((b - 1) * s) ((a - 1) * s) s).length = D.length := by
    rw [summedL_len, hVSl]; omega
  have hLg : ∀ i : Nat, i < D.length → ((summedL (valuesS (addAll S).1 (addAll S).2) (weightsS b a) ((b - 1) * s) ((a - 1) * s) s).getD i (0, false)).2 = true →
      ((summedL (valuesS (addAll S).1 (addAll S).2) (weightsS b a) ((b - 1) * s) ((a - 1) * s) s).getD i (0, false)).1 = (D.getD i (0, false)).1 := by
    intro i hi
    rw [summedL_at _ _ _ _ _ _ (by rw [hLl]; exact hi), D3 i hi, wsum_vers _ _ _ _ p1 p3]
    have hwn : ∀ k : Nat, k < (weightsS b a).length → (weightsS b a).getD k 0 ≠ 0 := by
      intro k hk
      rw [weightsS_len] at hk
      rw [weightsS_get b a k hk]
      exact weightS_ne b a b1 a1 k hk
    rw [wsum_eq _ _ _ _ hwn, weightsS_len]
    intro hal
    -- all readings are known
    have key : ∀ k : Nat, k < (b + a - 1).toNat → (weightsS b a).getD k 0 * ((valuesS (addAll S).1 (addAll S).2).getD ((i : Int) + (k : Int) * s).toNat (0, false)).1 =
        weightS b a (1 - b + (k : Int)) * (s * (2 * ((valuesS t.vals t.holes).getD (i + (k + 1) * s.toNat) (0, false)).1 - ((valuesS t.vals t.holes).getD (i + k * s.toNat) (0, false)).1 - ((valuesS t.vals t.holes).getD (i + (k + 2) * s.toNat) (0, false)).1)) := by
      intro k hk
      have hkn := Al_at _ _ k hk hal
      have hq : ((i : Int) + (k : Int) * s).toNat = i + k * s.toNat ∧ i + k * s.toNat < S.length := by
        obtain rfl | rfl | rfl | rfl : s = 1 ∨ s = 2 ∨ s = 3 ∨ s = 4 := by omega
        all_goals first | (simp; done) | (simp; omega) | omega
      rw [hq.1] at hkn ⊢
      rw [hVSg _ hq.2] at hkn ⊢
      dsimp only at hkn ⊢
      rw [hkn, if_pos rfl, weightsS_get b a k hk]
      rw [S3 _ hq.2, wsum_vers _ _ _ _ s1 s1]
      dsimp only
      have e1 : i + k * s.toNat + s.toNat = i + (k + 1) * s.toNat := by rw [Nat.add_mul]; omega
      have e2 : i + k * s.toNat + (s + s).toNat = i + (k + 2) * s.toNat := by rw [Nat.add_mul]; omega
      rw [e1, e2]
      congr 1
      obtain rfl | rfl | rfl | rfl : s = 1 ∨ s = 2 ∨ s = 3 ∨ s = 4 := by omega
      all_goals omega
    rw [Sg_congr _ key]
    have ht := tent (fun j => ((valuesS t.vals t.holes).getD (i + j * s.toNat) (0, false)).1) b a b1 b5 a1 a5
    have hsg : ∀ (m : Nat) (w g : Nat → Int), Sg m (fun k => w k * (s * g k)) = s * Sg m (fun k => w k * g k) := by
      intro m w g
      induction m with
      | zero => simp [Sg]
      | succ m ih => simp only [Sg]; rw [ih, Int.mul_add, ← Int.mul_assoc, ← Int.mul_assoc, Int.mul_comm (w m) s]
    rw [hsg]
    try dsimp only at ht
    rw [ht]
    have e1 : i + b.toNat * s.toNat = i + (s * b).toNat := by
      obtain rfl | rfl | rfl | rfl : s = 1 ∨ s = 2 ∨ s = 3 ∨ s = 4 := by omega
      all_goals first | (simp; done) | (simp; omega) | omega
    have e2 : i + (b + a).toNat * s.toNat = i + (s * b + s * a).toNat := by
      obtain rfl | rfl | rfl | rfl : s = 1 ∨ s = 2 ∨ s = 3 ∨ s = 4 := by omega
      all_goals first | (simp; done) | (simp; omega) | omega
    rw [e1, e2, Nat.zero_mul, Nat.add_zero]
    generalize ((valuesS t.vals t.holes).getD (i + (s * b).toNat) (0, false)).1 = x
    generalize ((valuesS t.vals t.holes).getD i (0, false)).1 = y
    generalize ((valuesS t.vals t.holes).getD (i + (s * b + s * a).toNat) (0, false)).1 = z
    rw [Int.mul_sub, Int.mul_sub, ← Int.mul_assoc, ← Int.mul_assoc, ← Int.mul_assoc, p5]
    rw [Int.neg_mul, Int.neg_mul]
    omega
  have hDb : ∀ i : Nat, i < D.length → -1073741824 ≤ (D.getD i (0, false)).1 ∧ (D.getD i (0, false)).1 ≤ 1073741824 := by
    intro i hi
    rw [D3 i hi, wsum_vers _ _ _ _ p1 p3]
    have h1 := hs (i + (s * b).toNat)
    have h2 := hs i
    have h3 := hs (i + (s * b + s * a).toNat)
    dsimp only
    generalize ((valuesS t.vals t.holes).getD (i + (s * b).toNat) (0, false)).1 = x at *
    generalize ((valuesS t.vals t.holes).getD i (0, false)).1 = y at *
    generalize ((valuesS t.vals t.holes).getD (i + (s * b + s * a).toNat) (0, false)).1 = z at *
    have bnd : ∀ u v : Int, u.natAbs ≤ 40 → v.natAbs ≤ 20000 → -800000 ≤ u * v ∧ u * v ≤ 800000 := by
      intro u v h5 h6
      have := Int.natAbs_mul u v
      have h7 := Nat.mul_le_mul h5 h6
      generalize u * v = c at *
      generalize u.natAbs * v.natAbs = d at *
      omega
    have k1 := bnd (s * b + s * a) x (by omega) (by omega)
    have k2 := bnd (-(s * a)) y (by omega) (by omega)
    have k3 := bnd (-(s * b)) z (by omega) (by omega)
    omega
  generalize hL : summedL (valuesS (addAll S).1 (addAll S).2) (weightsS b a) ((b - 1) * s) ((a - 1) * s) s = L at *
  have hLbad : L.any badS = false := by
    refine good_of fun i hi hk => ?_
    rw [hLg i (by omega) hk]
    exact hDb i (by omega)
  have hsum : summedS (t.first + s) (valuesS (addAll S).1 (addAll S).2) (weightsS b a) ((b - 1) * s) ((a - 1) * s) s = (⟨t.first + s * b, (addAll L).1, (addAll L).2⟩, 0) := by
    unfold summedS
    rw [hL, if_neg (by omega)]
    unfold madeS
    rw [hLbad, p8]
    have e : t.first + s + (s * b - s) = t.first + s * b := by omega
    rw [e]; rfl
  rw [hsum]
  refine ⟨rfl, rfl, ?_⟩
  exact agree_made hLbad D2 (by omega) (by omega) (by omega) hLl fun i hi hk _ => hLg i (by omega) hk

end Go.Proofs.YtbpffadffbgloaaDoor
