/- Chapter 5: what AlignMirrored asks (no program). -/
import Derived.Test.YtoopgdchiljmiaaGreatDoorJh
import Derived.Test.YtoopgdchiljmiaaGreatDoorDg
import Derived.Test.YtoopgdchiljmiaaGreatDoorFh
import Derived.Test.YtoopgdchiljmiaaGreatDoorDy
set_option linter.unusedVariables false
set_option linter.unusedSimpArgs false
namespace Go.Proofs.YtoopgdchiljmiaaGreatDoor
open Go.RowKit Go.Sym

theorem last_max {l : List Th} (h : l.Pairwise fun x y => x.place < y.place) {y : Th} (hy : y ∈ l) : y.place ≤ (l.getD (l.length - 1) thD).place := by
  obtain ⟨i, hi, rfl⟩ := List.getElem_of_mem hy
  rw [List.getD, List.getElem?_eq_getElem (show l.length - 1 < l.length by omega)]
  by_cases e : i = l.length - 1
  · subst e; exact Int.le_refl _
  · have := List.pairwise_iff_getElem.1 h i (l.length - 1) hi (by omega) (by omega)
    exact Int.le_of_lt this
theorem neg_one {F : Int} {l : List Th} (h : checkS l = 0) (hn : (turnL F l).any ngB = true) : 0 < l.length ∧ F < (l.getD (l.length - 1) thD).place := by
  obtain ⟨x, hx, hng⟩ := List.any_eq_true.1 hn
  unfold turnL at hx
  obtain ⟨y, hy, rfl⟩ := List.mem_map.1 (List.mem_reverse.1 hx)
  unfold checkS at h
  split at h
  · cases h
  · have h2 := last_max (thingsS_iff.1 h).2 hy
    have h3 : F - y.place < 0 := of_decide_eq_true hng
    exact ⟨List.length_pos_of_mem hy, by omega⟩
theorem neg_far {m s : List Th} {F : Int} (h : rideS m s = 0) (hn : negS m s F F = true) : (0 < m.length ∧ F < (m.getD (m.length - 1) thD).place) ∨ (0 < s.length ∧ F < (s.getD (s.length - 1) thD).place) := by
  obtain ⟨h1, h2⟩ := rideS_zero h
  unfold negS at hn
  rw [List.any_append, Bool.or_eq_true] at hn
  exact hn.imp (neg_one h1) (neg_one h2)

theorem checkPairs_zero {m s : List Th} {l : List (Int × Int)} : checkPairsS m s l = 0 ↔ rideS m s = 0 ∧ l.length ≤ 64 ∧ VP m s (-1, -1) l := by
  have hf : frontS m s l = 0 ↔ rideS m s = 0 ∧ l.length ≤ 64 := by
    unfold frontS
    rw [firstS_cons, firstS_cons, whenS_zero (by decide)]
    simp [firstS]
    omega
  unfold checkPairsS
  by_cases h : frontS m s l = 0
  · rw [if_pos h, pairsS_iff]
    have := hf.1 h
    exact ⟨fun hv => ⟨this.1, this.2, hv⟩, fun hv => hv.2.2⟩
  · rw [if_neg h]
    exact ⟨fun h' => absurd h' h, fun hv => absurd (hf.2 ⟨hv.1, hv.2.1⟩) h⟩

structure MiF (m s : List Th) (l : List (Int × Int)) (r b n : Int) (tm ts : List Th) (tl : List (Int × Int)) : Prop where
  lm : tm.length = m.length
  ls : ts.length = s.length
  ll : tl.length = l.length
  rd : rideS tm ts = 0
  tE : turnE tm ts 100000 100000 = 0
  bk : turnR tm ts 100000 100000 = ((m, s), 0)
  k1 : checkPairsS m s l = 0
  k2 : checkPairsS tm ts tl = 0
  rk : rpairsS tm ts tl = 0
  p1 : ptE m s l = tl
  p2 : ptE tm ts tl = l
  co : ∀ c : Cs, csOk c → costE m s c l = 0 ∧ costE tm ts c tl = 0 ∧ costR tm ts c tl = costR m s c l
  al : ∀ c : Cs, csOk c → aligE m s c = 0 ∧ aligE tm ts c = 0 ∧ aligN tm ts c = aligN m s c
  c1 : confE m s r b l = 0
  c2 : confE tm ts r b tl = 0
  cl : (confL tm ts r b tl).length = (confL m s r b l).length
  bd : (-1000000000 ≤ (withR m s r b n l).1.1 ∧ (withR m s r b n l).1.1 ≤ 1000000000) ∧ -1000000000 ≤ (withR m s r b n l).1.2 ∧ (withR m s r b n l).1.2 ≤ 1000000000
  km : kindsOk tm
  ks : kindsOk ts
  w2 : (withR tm ts r b (100000 - n) tl).2 = (withR m s r b n l).2
  w1 : (withR m s r b n l).2 = 0 → (withR tm ts r b (100000 - n) tl).1 = (100000 - (withR m s r b n l).1.2, 100000 - (withR m s r b n l).1.1)

theorem turn_kinds {F : Int} {l : List Th} (h : kindsOk l) : kindsOk (turnL F l) := fun i => by
  have hz : ∀ y ∈ l, y.kind.size ≤ 1000000 := fun y hy => by
    obtain ⟨k, hk, rfl⟩ := List.getElem_of_mem hy
    have := h k
    rwa [List.getD, List.getElem?_eq_getElem hk] at this
  rw [List.getD]
  cases hi : (turnL F l)[i]? with
  | none => exact Nat.zero_le _
  | some x =>
    have hx := List.mem_of_getElem? hi
    unfold turnL at hx
    obtain ⟨y, hy, rfl⟩ := List.mem_map.1 (List.mem_reverse.1 hx)
    exact hz y hy
theorem mirror {m s : List Th} {l : List (Int × Int)} {r b n : Int} (h : rideS m s = 0) (hp : rpairsS m s l = 0) (hr : slipS r b = 0) (hn : 0 ≤ n ∧ n ≤ 100000) (hkm : kindsOk m) (hks : kindsOk s) (hng : ¬ negS m s 100000 100000 = true) :
    MiF m s l r b n (turnL 100000 m) (turnL 100000 s) (turnPL m s l) := by
  obtain ⟨h1, h2⟩ := rideS_zero h
  have hl : l.length ≤ 64 ∧ VP m s (-1, -1) l := by
    unfold rpairsS at hp
    split at hp
    · cases hp
    · exact ⟨by omega, pairsS_iff.1 hp⟩
  have hin : ∀ p ∈ l, inS m s p := fun p hp => ((VP_iff.1 hl.2).1 p hp).2.1
  have hany : (turnL 100000 m).any ngB = false ∧ (turnL 100000 s).any ngB = false := by
    unfold negS at hng
    rw [List.any_append, Bool.not_eq_true, Bool.or_eq_false_iff] at hng
    exact hng
  have hrd : rideS (turnL 100000 m) (turnL 100000 s) = 0 := by
    unfold rideS
    rw [firstS_cons, firstS_cons]
    exact ⟨turn_check (by decide) h1 hany.1, turn_check (by decide) h2 hany.2, rfl⟩
  have hV := turn_VP 100000 hl.2
  have hll := turnPL_len m s l
  have hk1 : checkPairsS m s l = 0 := checkPairs_zero.2 ⟨h, hl⟩
  have hk2 : checkPairsS (turnL 100000 m) (turnL 100000 s) (turnPL m s l) = 0 := checkPairs_zero.2 ⟨hrd, by omega, hV⟩
  have htE : turnE (turnL 100000 m) (turnL 100000 s) 100000 100000 = 0 := by
    unfold turnE
    rw [firstS_cons, firstS_cons, firstS_cons, withinS_zero]
    exact ⟨hrd, by omega, by omega, rfl⟩
  have hco : ∀ c : Cs, csOk c → costE m s c l = 0 ∧ costE (turnL 100000 m) (turnL 100000 s) c (turnPL m s l) = 0 := fun c hc => by
    unfold costE
    rw [firstS_cons, firstS_cons, firstS_cons, firstS_cons, firstS_cons, firstS_cons]
    exact ⟨⟨h, costsS_zero.2 hc, hk1, rfl⟩, hrd, costsS_zero.2 hc, hk2, rfl⟩
  have hal : ∀ c : Cs, csOk c → aligE m s c = 0 ∧ aligE (turnL 100000 m) (turnL 100000 s) c = 0 := fun c hc => by
    unfold aligE
    rw [firstS_cons, firstS_cons, firstS_cons, firstS_cons]
    exact ⟨⟨h, costsS_zero.2 hc, rfl⟩, hrd, costsS_zero.2 hc, rfl⟩
  have hc1 : confE m s r b l = 0 := by unfold confE; rw [firstS_cons, firstS_cons]; exact ⟨hk1, hr, rfl⟩
  have hc2 : confE (turnL 100000 m) (turnL 100000 s) r b (turnPL m s l) = 0 := by unfold confE; rw [firstS_cons, firstS_cons]; exact ⟨hk2, hr, rfl⟩
  have hwE : withE m s r b n l = whenS (decide ((l.length : Int) = 0)) 12 ∧ withE (turnL 100000 m) (turnL 100000 s) r b (100000 - n) (turnPL m s l) = whenS (decide ((l.length : Int) = 0)) 12 := by
    have e1 : withinS n 0 100000000 = 0 := by rw [withinS_zero]; omega
    have e2 : withinS (100000 - n) 0 100000000 = 0 := by rw [withinS_zero]; omega
    unfold withE
    rw [hk1, hk2, hr, e1, e2, hll]
    simp only [firstS]
    generalize whenS (decide ((l.length : Int) = 0)) 12 = z
    by_cases e : z = 0 <;> simp [e]
  have hW : (withR (turnL 100000 m) (turnL 100000 s) r b (100000 - n) (turnPL m s l)).2 = (withR m s r b n l).2 ∧ ((withR m s r b n l).2 = 0 → (withR (turnL 100000 m) (turnL 100000 s) r b (100000 - n) (turnPL m s l)).1 = (100000 - (withR m s r b n l).1.2, 100000 - (withR m s r b n l).1.1)) := by
    unfold withR
    rw [hwE.1, hwE.2]
    by_cases e : (l.length : Int) = 0
    · rw [decide_eq_true e]
      rw [if_pos (show whenS true 12 ≠ 0 by decide), if_pos (show whenS true 12 ≠ 0 by decide)]
      exact ⟨rfl, fun h => absurd h (by decide)⟩
    · rw [decide_eq_false e]
      rw [if_neg (show ¬ whenS false 12 ≠ 0 from fun h => h rfl), if_neg (show ¬ whenS false 12 ≠ 0 from fun h => h rfl)]
      have hI := turn_inter 100000 n (m := m) (s := s) (r := r) (b := b) (l := l) (by omega) fun i hi => hin _ (by
        unfold prAt
        rw [List.getD, List.getElem?_eq_getElem hi]
        exact List.getElem_mem hi)
      unfold withS
      rw [hll, hI]
      dsimp only
      by_cases g : (interS m s r b n l l.length).1 > (interS m s r b n l l.length).2
      · rw [if_pos g, if_pos (by omega)]
        exact ⟨rfl, fun h => absurd h (by decide)⟩
      · rw [if_neg g, if_neg (by omega)]
        exact ⟨rfl, fun _ => rfl⟩
  have hbd : (-1000000000 ≤ (withR m s r b n l).1.1 ∧ (withR m s r b n l).1.1 ≤ 1000000000) ∧ -1000000000 ≤ (withR m s r b n l).1.2 ∧ (withR m s r b n l).1.2 ≤ 1000000000 := by
    have hI := inter_bound (l := l) (checkS_zero h1).2 (checkS_zero h2).2 hr (n := n) (by omega) l.length
    unfold withR withS
    split
    · dsimp only; omega
    · split
      · dsimp only; omega
      · exact hI
  refine ⟨turnL_len _ _, turnL_len _ _, hll, hrd, htE, ?_, hk1, hk2, ?_, ?_, ?_, fun c hc => ⟨(hco c hc).1, (hco c hc).2, ?_⟩, fun c hc => ⟨(hal c hc).1, (hal c hc).2, ?_⟩, hc1, hc2, ?_, hbd, turn_kinds hkm, turn_kinds hks, hW.1, hW.2⟩
  · have hg2 : ¬ negS (turnL 100000 m) (turnL 100000 s) 100000 100000 = true := by
      unfold negS
      rw [turnL_twice, turnL_twice]
      intro hc
      obtain ⟨x, hx, hxn⟩ := List.any_eq_true.1 hc
      have hx0 : x.place < 0 := of_decide_eq_true hxn
      rcases List.mem_append.1 hx with hx | hx
      · unfold checkS at h1; split at h1
        · cases h1
        · have := ((thingsS_iff.1 h1).1 x hx).2.1; omega
      · unfold checkS at h2; split at h2
        · cases h2
        · have := ((thingsS_iff.1 h2).1 x hx).2.1; omega
    unfold turnR
    rw [if_neg (fun hh => hh htE), if_neg hg2, turnL_twice, turnL_twice]
  · unfold rpairsS
    rw [if_neg (by omega)]
    exact pairsS_iff.2 hV
  · unfold ptE; rw [if_neg (fun hh => hh hk1)]
  · unfold ptE; rw [if_neg (fun hh => hh hk2)]; exact turnPL_twice (turnL_len _ _) (turnL_len _ _)
  · unfold costR
    rw [if_pos (hco c hc).1, if_pos (hco c hc).2]
    exact turn_cost 100000 c hin
  · unfold aligN
    rw [if_neg (fun hh => hh (hal c hc).2), if_neg (fun hh => hh (hal c hc).1)]
    exact turn_least 100000 m s c
  · unfold confL
    rw [if_neg (fun hh => hh hc2), if_neg (fun hh => hh hc1)]
    exact turn_confs 100000 hin

end Go.Proofs.YtoopgdchiljmiaaGreatDoor
