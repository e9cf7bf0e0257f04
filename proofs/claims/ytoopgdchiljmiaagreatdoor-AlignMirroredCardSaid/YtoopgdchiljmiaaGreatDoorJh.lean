/- Chapter 5: a ride turned: it is valid, as many pairs conflict, the places of a count are the mirrored ones (no program). -/
import Derived.Test.YtoopgdchiljmiaaGreatDoorJg
import Derived.Test.YtoopgdchiljmiaaGreatDoorEd
import Derived.Test.YtoopgdchiljmiaaGreatDoorEg
set_option linter.unusedVariables false
set_option linter.unusedSimpArgs false
namespace Go.Proofs.YtoopgdchiljmiaaGreatDoor
open Go.RowKit Go.Sym

theorem thingsS_iff : ∀ {l : List Th} {b : Int}, thingsS l b = 0 ↔ (∀ x ∈ l, nameOk x.kind = true ∧ (0 ≤ x.place ∧ x.place ≤ 100000000) ∧ b < x.place) ∧ l.Pairwise fun x y => x.place < y.place
  | [], b => ⟨fun _ => ⟨fun p h => (by cases h), List.Pairwise.nil⟩, fun _ => rfl⟩
  | x :: l, b => by
    simp only [thingsS]
    rw [List.pairwise_cons]
    by_cases h : thS x b = 0
    · rw [if_pos h, thingsS_iff]
      obtain ⟨h1, h2, h3⟩ := thS_zero.1 h
      constructor
      · rintro ⟨g1, g2⟩
        refine ⟨fun y hy => ?_, fun y hy => (g1 y hy).2.2, g2⟩
        rcases List.mem_cons.1 hy with rfl | hy
        · exact ⟨h1, h2, h3⟩
        · obtain ⟨k1, k2, k3⟩ := g1 y hy
          exact ⟨k1, k2, by omega⟩
      · rintro ⟨g1, g2, g3⟩
        exact ⟨fun y hy => ⟨(g1 y (List.mem_cons_of_mem _ hy)).1, (g1 y (List.mem_cons_of_mem _ hy)).2.1, g2 y hy⟩, g3⟩
    · rw [if_neg h]
      constructor
      · intro h'; exact absurd h' h
      · rintro ⟨g1, _⟩; exact absurd (thS_zero.2 (g1 x (List.mem_cons_self ..))) h
theorem turn_check {F : Int} {l : List Th} (hF : F ≤ 100000000) (h : checkS l = 0) (hn : (turnL F l).any ngB = false) : checkS (turnL F l) = 0 := by
  unfold checkS at h ⊢
  rw [turnL_len]
  split at h
  · cases h
  · rename_i hl
    rw [if_neg hl]
    obtain ⟨h1, h2⟩ := thingsS_iff.1 h
    refine thingsS_iff.2 ⟨fun x hx => ?_, ?_⟩
    · have hng : ¬ x.place < 0 := by
        have := List.any_eq_false.1 hn x hx
        simpa [ngB] using this
      unfold turnL at hx
      obtain ⟨y, hy, rfl⟩ := List.mem_map.1 (List.mem_reverse.1 hx)
      obtain ⟨g1, g2, g3⟩ := h1 y hy
      refine ⟨g1, ⟨by omega, ?_⟩, by omega⟩
      show F - y.place ≤ _
      omega
    · unfold turnL
      rw [List.pairwise_reverse, List.pairwise_map]
      refine h2.imp fun {a b} hab => ?_
      show F - b.place < F - a.place
      omega

/-- How many pairs of a list, in order, are such. -/
def cc (f : Int × Int → Int × Int → Bool) : List (Int × Int) → Nat
  | [] => 0
  | p :: l => l.countP (f p) + cc f l
theorem innS_cc (m s : List Th) (r b : Int) (l : List (Int × Int)) (i : Nat) : ∀ k, i + 1 + k ≤ l.length → (innS m s r b l i k).length = ((l.drop (i + 1)).take k).countP (confB m s r b (prAt l i))
  | 0, _ => by simp [innS]
  | k + 1, h => by
    have e : (l.drop (i + 1)).take (k + 1) = (l.drop (i + 1)).take k ++ [prAt l (i + 1 + k)] := by
      rw [take_snoc _ (0, 0) _ (by rw [List.length_drop]; omega)]
      simp [prAt, List.getD]
    rw [innS, List.length_append, innS_cc m s r b l i k (by omega), e, List.countP_append]
    congr 1
    split
    · rename_i hb; rw [List.countP_cons, List.countP_nil, if_pos hb]; rfl
    · rename_i hb; rw [List.countP_cons, List.countP_nil, if_neg hb]; rfl
theorem confsS_cc (m s : List Th) (r b : Int) (l : List (Int × Int)) : ∀ i, i ≤ l.length → (confsS m s r b l i).length + cc (confB m s r b) (l.drop i) = cc (confB m s r b) l
  | 0, _ => by simp [confsS]
  | i + 1, h => by
    have ih := confsS_cc m s r b l i (by omega)
    have e : l.drop i = prAt l i :: l.drop (i + 1) := by
      rw [List.drop_eq_getElem_cons (by omega)]
      simp [prAt, List.getD, List.getElem?_eq_getElem (show i < l.length by omega)]
    rw [e, cc] at ih
    rw [confsS, List.length_append, innS_cc m s r b l i _ (by omega), List.take_of_length_le (by rw [List.length_drop]; omega)]
    omega
theorem confs_count (m s : List Th) (r b : Int) (l : List (Int × Int)) : (confsS m s r b l l.length).length = cc (confB m s r b) l := by
  have := confsS_cc m s r b l l.length (Nat.le_refl _)
  rw [List.drop_length] at this
  exact this
theorem cc_snoc (f : Int × Int → Int × Int → Bool) : ∀ (l : List (Int × Int)) (x : Int × Int), cc f (l ++ [x]) = cc f l + l.countP fun a => f a x
  | [], x => by simp [cc]
  | p :: l, x => by
    rw [List.cons_append, cc, cc_snoc f l x, cc, List.countP_append, List.countP_cons, List.countP_cons, List.countP_nil]
    omega
theorem cc_rev {f f' : Int × Int → Int × Int → Bool} {g : Int × Int → Int × Int} : ∀ {l : List (Int × Int)}, (∀ p ∈ l, ∀ q ∈ l, f' (g q) (g p) = f p q) → cc f' ((l.map g).reverse) = cc f l
  | [], _ => rfl
  | p :: l, h => by
    rw [List.map_cons, List.reverse_cons, cc_snoc, cc_rev (f := f) fun a ha b hb => h a (List.mem_cons_of_mem _ ha) b (List.mem_cons_of_mem _ hb), List.countP_reverse, List.countP_map, cc]
    have e : l.countP ((fun a => f' a (g p)) ∘ g) = l.countP (f p) := List.countP_congr fun q hq => by
      show f' (g q) (g p) = true ↔ _
      rw [h p (List.mem_cons_self ..) q (List.mem_cons_of_mem _ hq)]
    rw [e]
    omega
theorem turn_cnt (F : Int) {m s : List Th} {p : Int × Int} (h : inS m s p) : cnt (turnL F s) (turnP m s p) = F - cnt s p := by
  unfold cnt turnP
  rw [turnL_at F s h.1.1 h.1.2]
  rfl
theorem turn_plc (F : Int) {m s : List Th} {p : Int × Int} (h : inS m s p) : plc (turnL F m) (turnP m s p) = F - plc m p := by
  unfold plc turnP
  rw [turnL_at F m h.2.1 h.2.2]
  rfl
theorem turn_conf (F : Int) {m s : List Th} {r b : Int} {p q : Int × Int} (hp : inS m s p) (hq : inS m s q) : confB (turnL F m) (turnL F s) r b (turnP m s q) (turnP m s p) = confB m s r b p q := by
  unfold confB
  rw [turn_cnt F hp, turn_cnt F hq, turn_plc F hp, turn_plc F hq]
  rw [show F - cnt s p - (F - cnt s q) = cnt s q - cnt s p by omega, show F - plc m p - (F - plc m q) = plc m q - plc m p by omega]
/-- Turned, as many pairs conflict. -/
theorem turn_confs (F : Int) {m s : List Th} {r b : Int} {l : List (Int × Int)} (h : ∀ p ∈ l, inS m s p) :
    (confsS (turnL F m) (turnL F s) r b (turnPL m s l) (turnPL m s l).length).length = (confsS m s r b l l.length).length := by
  rw [confs_count, confs_count]
  exact cc_rev fun p hp q hq => turn_conf F (h p hp) (h q hq)

theorem interS_tells (m s : List Th) (r b n : Int) (l : List (Int × Int)) : ∀ k, (∀ i, i < k + 1 → (ivalS m s r b n (prAt l i)).1 ≤ (interS m s r b n l (k + 1)).1 ∧ (interS m s r b n l (k + 1)).2 ≤ (ivalS m s r b n (prAt l i)).2) ∧
    (∃ i, i < k + 1 ∧ (interS m s r b n l (k + 1)).1 = (ivalS m s r b n (prAt l i)).1) ∧ ∃ i, i < k + 1 ∧ (interS m s r b n l (k + 1)).2 = (ivalS m s r b n (prAt l i)).2
  | 0 => by
    have e : interS m s r b n l 1 = ivalS m s r b n (prAt l 0) := rfl
    rw [e]
    refine ⟨fun i hi => ?_, ⟨0, by omega, rfl⟩, ⟨0, by omega, rfl⟩⟩
    obtain rfl : i = 0 := by omega
    exact ⟨Int.le_refl _, Int.le_refl _⟩
  | k + 1 => by
    obtain ⟨h1, ⟨i, hi, ei⟩, ⟨j, hj, ej⟩⟩ := interS_tells m s r b n l k
    have e : interS m s r b n l (k + 1 + 1) = cutS (interS m s r b n l (k + 1)) (ivalS m s r b n (prAt l (k + 1))) := by
      rw [interS, if_neg (by omega)]
    rw [e]
    unfold cutS
    refine ⟨fun t ht => ?_, ?_, ?_⟩
    · rcases Nat.lt_succ_iff_lt_or_eq.1 ht with ht | rfl
      · have := h1 t ht
        dsimp only
        constructor <;> split <;> omega
      · dsimp only
        constructor <;> split <;> omega
    · dsimp only
      split
      · exact ⟨k + 1, by omega, rfl⟩
      · exact ⟨i, by omega, ei⟩
    · dsimp only
      split
      · exact ⟨k + 1, by omega, rfl⟩
      · exact ⟨j, by omega, ej⟩
theorem turn_ival (F n : Int) {m s : List Th} {r b : Int} {p : Int × Int} (h : inS m s p) : ivalS (turnL F m) (turnL F s) r b (F - n) (turnP m s p) = (F - (ivalS m s r b n p).2, F - (ivalS m s r b n p).1) := by
  unfold ivalS wrongS
  rw [turn_cnt F h, turn_plc F h]
  have e : absI (F - n - (F - cnt s p)) = absI (n - cnt s p) := by unfold absI; omega
  rw [e]
  refine Prod.ext ?_ ?_ <;> dsimp only <;> omega
theorem turnPL_at {m s : List Th} {l : List (Int × Int)} {i : Nat} (h : i < l.length) : prAt (turnPL m s l) (l.length - 1 - i) = turnP m s (prAt l i) := by
  unfold prAt turnPL
  rw [List.getD, List.getElem?_reverse (by rw [List.length_map]; omega), List.length_map, show l.length - 1 - (l.length - 1 - i) = i by omega, List.getElem?_map, List.getD, List.getElem?_eq_getElem h]
  rfl
theorem turn_inter (F n : Int) {m s : List Th} {r b : Int} {l : List (Int × Int)} (hl : 0 < l.length) (h : ∀ i, i < l.length → inS m s (prAt l i)) :
    interS (turnL F m) (turnL F s) r b (F - n) (turnPL m s l) l.length = (F - (interS m s r b n l l.length).2, F - (interS m s r b n l l.length).1) := by
  obtain ⟨k, hk⟩ : ∃ k, l.length = k + 1 := ⟨l.length - 1, by omega⟩
  obtain ⟨h1, ⟨i, hi, ei⟩, ⟨j, hj, ej⟩⟩ := interS_tells m s r b n l k
  obtain ⟨g1, ⟨i', hi', ei'⟩, ⟨j', hj', ej'⟩⟩ := interS_tells (turnL F m) (turnL F s) r b (F - n) (turnPL m s l) k
  have at' : ∀ t, t < k + 1 → ivalS (turnL F m) (turnL F s) r b (F - n) (prAt (turnPL m s l) (k - t)) = (F - (ivalS m s r b n (prAt l t)).2, F - (ivalS m s r b n (prAt l t)).1) := fun t ht => by
    rw [show k - t = l.length - 1 - t by omega, turnPL_at (by omega)]
    exact turn_ival F n (h t (by omega))
  rw [hk]
  have a1 := g1 (k - j) (by omega)
  rw [at' j hj] at a1
  have a2 := g1 (k - i) (by omega)
  rw [at' i hi] at a2
  have a3 := h1 (k - i') (by omega)
  have b3 := at' (k - i') (by omega)
  rw [show k - (k - i') = i' by omega] at b3
  have a4 := h1 (k - j') (by omega)
  have b4 := at' (k - j') (by omega)
  rw [show k - (k - j') = j' by omega] at b4
  rw [b3] at ei'
  rw [b4] at ej'
  dsimp only at a1 a2 ei' ej'
  refine Prod.ext ?_ ?_ <;> dsimp only <;> omega

end Go.Proofs.YtoopgdchiljmiaaGreatDoor
