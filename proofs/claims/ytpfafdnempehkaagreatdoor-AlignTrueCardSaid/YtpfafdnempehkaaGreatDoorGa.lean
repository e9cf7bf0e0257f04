/- A train whose odometer loses or gains a place now and then: its true places lie within what its pairs permit. -/
import Derived.Test.YtpfafdnempehkaaGreatDoorEa
set_option linter.unusedVariables false
set_option linter.unusedSimpArgs false
namespace Go.Proofs.YtpfafdnempehkaaGreatDoor
open Go.RowKit Go.Sym

def balise : ByteArray := ⟨#[98, 97, 108, 105, 115, 101]⟩
def cntK (g : List Int) : Nat → Int
  | 0 => 0
  | k + 1 => cntK g k + (1 + g.getD k 0)
def trueS (E W c : Int) : Int := 5000 + c + W * Int.tdiv c E
def sgT (g : List Int) : List Th := (List.range g.length).map fun k => ⟨balise, cntK g (k + 1)⟩
def mkT (g o : List Int) (E W : Int) : List Th := (List.range g.length).map fun k => ⟨balise, trueS E W (cntK g (k + 1)) + Int.tmod (o.getD k 0) 21⟩
def prT (g : List Int) : List (Int × Int) := (List.range g.length).map fun (k : Nat) => ((k : Int), (k : Int))
def rateS (E : Int) : Int := Int.tdiv (1000 + E - 1) E
theorem sgT_len (g : List Int) : (sgT g).length = g.length := by simp [sgT]
theorem mkT_len (g o : List Int) (E W : Int) : (mkT g o E W).length = g.length := by simp [mkT]
theorem prT_len (g : List Int) : (prT g).length = g.length := by simp [prT]
theorem range_at {α : Type} (f : Nat → α) (d : α) (n k : Nat) (h : k < n) : ((List.range n).map f).getD k d = f k := by
  rw [List.getD_eq_getElem?_getD, List.getElem?_map, List.getElem?_range h]; rfl
theorem sgT_at (g : List Int) (k : Nat) (h : k < g.length) : (sgT g).getD k thD = ⟨balise, cntK g (k + 1)⟩ := range_at _ _ _ _ h
theorem mkT_at (g o : List Int) (E W : Int) (k : Nat) (h : k < g.length) : (mkT g o E W).getD k thD = ⟨balise, trueS E W (cntK g (k + 1)) + Int.tmod (o.getD k 0) 21⟩ := range_at _ _ _ _ h
theorem prT_at (g : List Int) (k : Nat) (h : k < g.length) : prAt (prT g) k = ((k : Int), (k : Int)) := range_at _ _ _ _ h
theorem cnt_T (g : List Int) (k : Nat) (h : k < g.length) : cnt (sgT g) (prAt (prT g) k) = cntK g (k + 1) := by
  rw [prT_at g k h]
  show ((sgT g).getD (k : Int).toNat thD).place = _
  rw [Int.toNat_natCast, sgT_at g k h]
theorem plc_T (g o : List Int) (E W : Int) (k : Nat) (h : k < g.length) : plc (mkT g o E W) (prAt (prT g) k) = trueS E W (cntK g (k + 1)) + Int.tmod (o.getD k 0) 21 := by
  rw [prT_at g k h]
  show ((mkT g o E W).getD (k : Int).toNat thD).place = _
  rw [Int.toNat_natCast, mkT_at g o E W k h]

theorem cntK_bound {g : List Int} (hg : ∀ x ∈ g, 0 ≤ x ∧ x ≤ 255) : ∀ k : Nat, k ≤ g.length → (k : Int) ≤ cntK g k ∧ cntK g k ≤ 256 * (k : Int)
  | 0, _ => by simp [cntK]
  | k + 1, h => by
    have h1 := cntK_bound hg k (by omega)
    have h2 : 0 ≤ g.getD k 0 ∧ g.getD k 0 ≤ 255 := by
      rw [List.getD_eq_getElem?_getD, List.getElem?_eq_getElem (show k < g.length by omega)]
      exact hg _ (List.getElem_mem _)
    simp only [cntK]
    omega
theorem cntK_up {g : List Int} (hg : ∀ x ∈ g, 0 ≤ x ∧ x ≤ 255) {i : Nat} : ∀ k : Nat, k ≤ g.length → i < k → cntK g i < cntK g k
  | 0, _, h => by omega
  | k + 1, h, hi => by
    have h2 : 0 ≤ g.getD k 0 := by
      rw [List.getD_eq_getElem?_getD, List.getElem?_eq_getElem (show k < g.length by omega)]
      exact (hg _ (List.getElem_mem _)).1
    simp only [cntK]
    rcases (by omega : i < k ∨ i = k) with e | e
    · have := cntK_up hg k (by omega) e; omega
    · subst e; omega
theorem tmod_small (x : Int) : -20 ≤ Int.tmod x 21 ∧ Int.tmod x 21 ≤ 20 := by
  have h1 := Int.tmod_lt_of_pos x (show (0 : Int) < 21 by decide)
  have h2 := Int.lt_tmod_of_pos x (show (0 : Int) < 21 by decide)
  omega

/-- How far two places may be from their counts. -/
theorem share_ge {d q r E : Int} (hE : 0 < E) (hr : 1000 ≤ r * E) (hr1 : 1 ≤ r) (hd : 0 ≤ d) (h : (q - 1) * E + 1 ≤ d) : q ≤ shareS d r := by
  unfold shareS
  have h0 : 0 ≤ d * r := Int.mul_nonneg hd (by omega)
  rw [Int.tdiv_eq_ediv_of_nonneg (by omega)]
  refine Int.le_ediv_of_mul_le (by decide) ?_
  rcases (by omega : q ≤ 0 ∨ 1 ≤ q) with e | e
  · have : q * 1000 ≤ 0 := Int.mul_nonpos_of_nonpos_of_nonneg e (by decide)
    omega
  · have h1 : ((q - 1) * E + 1) * r ≤ d * r := Int.mul_le_mul_of_nonneg_right h (by omega)
    have h2 : (q - 1) * 1000 ≤ (q - 1) * (r * E) := Int.mul_le_mul_of_nonneg_left hr (by omega)
    have h3 : ((q - 1) * E + 1) * r = (q - 1) * (r * E) + r := by
      rw [Int.add_mul, Int.one_mul, Int.mul_assoc, Int.mul_comm E r]
    have h4 : q * 1000 = (q - 1) * 1000 + 1000 := by omega
    omega
theorem floor_far {a c E : Int} (hE : 0 < E) (ha : 0 ≤ a) (hc : 0 ≤ c) : (Int.tdiv a E - Int.tdiv c E - 1) * E + 1 ≤ a - c := by
  rw [Int.tdiv_eq_ediv_of_nonneg ha, Int.tdiv_eq_ediv_of_nonneg hc]
  have h1 := Int.ediv_mul_le a (show E ≠ 0 by omega)
  have h2 := Int.lt_ediv_add_one_mul_self c hE
  have h3 : (a / E - c / E - 1) * E = a / E * E - (c / E + 1) * E := by
    rw [← Int.sub_mul]; congr 1; omega
  omega
theorem floor_mono {a c E : Int} (hE : 0 < E) (hc : 0 ≤ c) (h : c ≤ a) : Int.tdiv c E ≤ Int.tdiv a E := by
  rw [Int.tdiv_eq_ediv_of_nonneg hc, Int.tdiv_eq_ediv_of_nonneg (by omega)]
  exact Int.ediv_le_ediv hE h
theorem way_abs {W q s : Int} (hW : W = -1 ∨ W = 0 ∨ W = 1) (h : -s ≤ q ∧ q ≤ s) : -s ≤ W * q ∧ W * q ≤ s := by
  rcases hW with rfl | rfl | rfl <;> omega
theorem far_share {a c E : Int} (hE : 0 < E) (hr : 1000 ≤ rateS E * E) (hr1 : 1 ≤ rateS E) (ha : 0 ≤ a) (hc : 0 ≤ c) : -(shareS (absI (a - c)) (rateS E)) ≤ Int.tdiv a E - Int.tdiv c E ∧ Int.tdiv a E - Int.tdiv c E ≤ shareS (absI (a - c)) (rateS E) := by
  rcases Int.le_total c a with h | h
  · have e : absI (a - c) = a - c := by unfold absI; omega
    have h1 := share_ge hE hr hr1 (show 0 ≤ a - c by omega) (floor_far hE ha hc)
    have h2 := floor_mono hE hc h
    rw [e]
    omega
  · have e : absI (a - c) = c - a := by unfold absI; omega
    have h1 := share_ge hE hr hr1 (show 0 ≤ c - a by omega) (floor_far hE hc ha)
    have h2 := floor_mono hE ha h
    rw [e]
    omega
theorem rate_ok {E : Int} (h : 2 ≤ E ∧ E ≤ 101) : 1000 ≤ rateS E * E ∧ 1 ≤ rateS E ∧ rateS E ≤ 500 := by
  unfold rateS
  rw [Int.tdiv_eq_ediv_of_nonneg (by omega)]
  have h1 := Int.lt_ediv_add_one_mul_self (1000 + E - 1) (show 0 < E by omega)
  rw [Int.add_mul, Int.one_mul] at h1
  have h2 : 1 ≤ (1000 + E - 1) / E := Int.le_ediv_of_mul_le (by omega) (by omega)
  have h3 : (1000 + E - 1) / E < 501 := Int.ediv_lt_of_lt_mul (by omega) (by omega)
  exact ⟨by omega, h2, by omega⟩

/-- The places of a train, pair by pair. -/
structure Run5 (g o : List Int) (E W at' : Int) : Prop where
  hg : ∀ x ∈ g, 0 ≤ x ∧ x ≤ 255
  hE : 2 ≤ E ∧ E ≤ 101
  hW : W = -1 ∨ W = 0 ∨ W = 1
  hn : 0 < g.length ∧ g.length ≤ 8
  ha : 0 ≤ at' ∧ at' ≤ 2000
theorem true_in {g o : List Int} {E W at' : Int} (h : Run5 g o E W at') (k : Nat) (hk : k < g.length) : (ivalS (mkT g o E W) (sgT g) (rateS E) 20 at' (prAt (prT g) k)).1 ≤ trueS E W at' ∧ trueS E W at' ≤ (ivalS (mkT g o E W) (sgT g) (rateS E) 20 at' (prAt (prT g) k)).2 := by
  have h1 := cntK_bound h.hg (k + 1) (by omega)
  have h2 := tmod_small (o.getD k 0)
  obtain ⟨r1, r2, r3⟩ := rate_ok h.hE
  have h3 := way_abs h.hW (far_share (E := E) (a := at') (c := cntK g (k + 1)) (by have := h.hE; omega) r1 r2 h.ha.1 (by omega))
  rw [Int.mul_sub] at h3
  unfold ivalS wrongS
  rw [cnt_T g k hk, plc_T g o E W k hk]
  unfold trueS
  dsimp only
  omega
theorem inter_in {g o : List Int} {E W at' : Int} (h : Run5 g o E W at') : ∀ k : Nat, 0 < k → k ≤ g.length → (interS (mkT g o E W) (sgT g) (rateS E) 20 at' (prT g) k).1 ≤ trueS E W at' ∧ trueS E W at' ≤ (interS (mkT g o E W) (sgT g) (rateS E) 20 at' (prT g) k).2
  | 0, h0, _ => by omega
  | k + 1, _, hk => by
    have h1 := true_in h k (by omega)
    rcases Nat.eq_zero_or_pos k with rfl | h0
    · exact h1
    · have h2 := inter_in h k h0 (by omega)
      rw [interS, if_neg (by omega)]
      unfold cutS
      dsimp only
      constructor
      · split
        · exact h1.1
        · exact h2.1
      · split
        · exact h1.2
        · exact h2.2
theorem no_conf {g o : List Int} {E W at' : Int} (h : Run5 g o E W at') {i k : Nat} (hik : i < k) (hk : k < g.length) : confB (mkT g o E W) (sgT g) (rateS E) 20 (prAt (prT g) i) (prAt (prT g) k) = false := by
  have h1 := cntK_bound h.hg (k + 1) (by omega)
  have h2 := cntK_bound h.hg (i + 1) (by omega)
  have h3 := cntK_up h.hg (i := i + 1) (k + 1) (by omega) (by omega)
  have t1 := tmod_small (o.getD k 0)
  have t2 := tmod_small (o.getD i 0)
  obtain ⟨r1, r2, r3⟩ := rate_ok h.hE
  have h4 := way_abs h.hW (far_share (E := E) (a := cntK g (k + 1)) (c := cntK g (i + 1)) (by have := h.hE; omega) r1 r2 (by omega) (by omega))
  have e : absI (cntK g (k + 1) - cntK g (i + 1)) = cntK g (k + 1) - cntK g (i + 1) := by unfold absI; omega
  rw [e, Int.mul_sub] at h4
  unfold confB
  rw [cnt_T g k hk, cnt_T g i (by omega), plc_T g o E W k hk, plc_T g o E W i (by omega)]
  unfold trueS
  refine decide_eq_false ?_
  omega
theorem no_confs {g o : List Int} {E W at' : Int} (h : Run5 g o E W at') : ∀ i, i ≤ g.length → confsS (mkT g o E W) (sgT g) (rateS E) 20 (prT g) i = []
  | 0, _ => rfl
  | i + 1, hi => by
    have hinn : ∀ k, i + k < g.length → innS (mkT g o E W) (sgT g) (rateS E) 20 (prT g) i k = [] := by
      intro k
      induction k with
      | zero => intro _; rfl
      | succ k ih =>
        intro hk
        simp only [innS]
        rw [ih (by omega), if_neg (by rw [no_conf h (show i < i + 1 + k by omega) (by omega)]; decide)]
        rfl
    rw [confsS, no_confs h i (by omega), prT_len, hinn _ (by omega)]
    rfl
theorem pairs_T {g o : List Int} {E W at' : Int} (h : Run5 g o E W at') (hr : rideS (mkT g o E W) (sgT g) = 0) : checkPairsS (mkT g o E W) (sgT g) (prT g) = 0 := by
  have hn := h.hn
  have hl := prT_len g
  have key : ∀ j, j ≤ g.length → pairsS (mkT g o E W) (sgT g) ((prT g).drop (g.length - j)) (lastPr (prT g) (g.length - j)) = 0 := by
    intro j
    induction j with
    | zero => intro _; rw [List.drop_of_length_le (by omega)]; rfl
    | succ j ih =>
      intro hj
      have hk : g.length - (j + 1) < g.length := by omega
      rw [pairsS_drop _ _ _ _ (by omega)]
      have hA := prT_at g _ hk
      have hout : outS (mkT g o E W) (sgT g) (prAt (prT g) (g.length - (j + 1))) = false := by
        rw [hA]
        unfold outS
        rw [sgT_len, mkT_len, decide_eq_false (by show ¬ ((g.length - (j + 1) : Nat) : Int) < 0; omega), decide_eq_false (by show ¬ (g.length : Int) ≤ ((g.length - (j + 1) : Nat) : Int); omega)]
        rfl
      have hal : alikeS (mkT g o E W) (sgT g) (prAt (prT g) (g.length - (j + 1))) = true := by
        rw [hA]
        refine decide_eq_true ?_
        show ((sgT g).getD ((g.length - (j + 1) : Nat) : Int).toNat thD).kind = ((mkT g o E W).getD ((g.length - (j + 1) : Nat) : Int).toNat thD).kind
        rw [Int.toNat_natCast, sgT_at g _ hk, mkT_at g o E W _ hk]
      have hlast : (lastPr (prT g) (g.length - (j + 1))).1 < ((g.length - (j + 1) : Nat) : Int) ∧ (lastPr (prT g) (g.length - (j + 1))).2 < ((g.length - (j + 1) : Nat) : Int) := by
        cases hc : g.length - (j + 1) with
        | zero => exact ⟨by show (-1 : Int) < 0; decide, by show (-1 : Int) < 0; decide⟩
        | succ i =>
          show (prAt (prT g) i).1 < _ ∧ (prAt (prT g) i).2 < _
          rw [prT_at g i (by omega)]
          exact ⟨by show (i : Int) < ((i + 1 : Nat) : Int); omega, by show (i : Int) < ((i + 1 : Nat) : Int); omega⟩
      have hE : pairE (mkT g o E W) (sgT g) (prAt (prT g) (g.length - (j + 1))) (lastPr (prT g) (g.length - (j + 1))) = 0 := by
        unfold pairE
        rw [hal, hA, decide_eq_false (by show ¬ ((g.length - (j + 1) : Nat) : Int) ≤ (lastPr (prT g) (g.length - (j + 1))).1; omega), decide_eq_false (by show ¬ ((g.length - (j + 1) : Nat) : Int) ≤ (lastPr (prT g) (g.length - (j + 1))).2; omega)]
        rfl
      rw [hout, if_neg (by decide), if_pos hE]
      have := ih (by omega)
      rw [show g.length - j = g.length - (j + 1) + 1 by omega] at this
      exact this
  unfold checkPairsS
  have hf : frontS (mkT g o E W) (sgT g) (prT g) = 0 := by
    unfold frontS
    rw [firstS_cons, firstS_cons, whenS_zero (by decide)]
    exact ⟨hr, decide_eq_false (by rw [hl]; omega), rfl⟩
  rw [if_pos hf]
  have := key g.length (Nat.le_refl _)
  rw [Nat.sub_self] at this
  exact this

end Go.Proofs.YtpfafdnempehkaaGreatDoor
