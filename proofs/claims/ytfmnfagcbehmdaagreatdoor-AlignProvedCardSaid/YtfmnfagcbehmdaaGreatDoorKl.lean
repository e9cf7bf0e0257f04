/- Chapter 5: a table that is an argument, opened. -/
import Derived.Deep.Matrix
import Derived.Test.YtfmnfagcbehmdaaGreatDoorDq
import Derived.Test.YtfmnfagcbehmdaaGreatDoorKd
set_option linter.unusedVariables false
set_option linter.unusedSimpArgs false
namespace Go.Proofs.YtfmnfagcbehmdaaGreatDoor
open Go.RowKit Go.Sym
open Go.ChangeShapes Go.WideShapes Go.ChangeAt

/-- Where a table lies: its rows in a slice of slices; fk is a slice as which the places of the rows are kept. -/
def TabRd (W : World) (v fk : Value) (n : Nat) (R : Nat → List Int) : Prop :=
  n ≤ 9223372036854775807 ∧ ∀ (ρ : Env) (i j : Nat), ρ i = some (locV v) → ρ j = some (locV fk) → (roT j n R).holds ρ i W ∧ (roF n R).holds ρ j W ∧ (AV.sl i n).den ρ = some v
set_option maxRecDepth 20000 in
theorem open_table_rd {W : World} {H : Type} {enc : TypeId × Value → H} {fuel : Nat} {v : Value} {x : DataW H × List MemPlace} (hf : DataW.trod enc Tryz.prog W 0 (fun _ => true) true fuel 52 [v] = some x) :
    ∃ (n : Nat) (R : Nat → List Int) (fk : Value), TabRd W v fk n R := by
  have ht : Tryz.prog.underlying 52 = some (.slice 45) := by kernel_rfl
  have he : Tryz.prog.underlying 45 = some (.slice 3) := by kernel_rfl
  have hq : Tryz.prog.underlying 3 = some (.int .i64) := by kernel_rfl
  have ce : Tryz.prog.cellsOf 45 = 1 := by kernel_rfl
  have cq : Tryz.prog.cellsOf 3 = 1 := by kernel_rfl
  have build : ∀ (Ad : Option Addr) (n cap : Nat) (A : Nat → Option Addr) (L C : Nat → Nat) (Z : Nat → List Int), v = .slice Ad n cap → n ≤ cap → cap ≤ maxLen → (0 < n → ∃ a, Ad = some a ∧ ∀ r, r < n → W.cell? (a.add r) = some (.slice (A r) (L r) (C r))) →
      (∀ r, r < n → L r ≤ C r ∧ C r ≤ maxLen ∧ (Z r).length = C r ∧ (A r = none → C r = 0) ∧ ∀ a', A r = some a' → ∀ c, c < C r → W.cell? (a'.add c) = some (.int .i64 ((Z r).getD c 0))) → ∃ (n : Nat) (R : Nat → List Int) (fk : Value), TabRd W v fk n R := by
    intro Ad n cap A L C Z hv h1 h2 h3 h4
    have hlen : ∀ r, r < n → ((Z r).take (L r)).length = L r := fun r hr => by
      obtain ⟨g1, _, g3, _⟩ := h4 r hr
      rw [List.length_take]; omega
    refine ⟨n, fun r => (Z r).take (L r), .slice none 0 (locsN ((List.range n).map fun r => (A r, C r))), by unfold maxLen at h2; omega, fun ρ i j hi hj => ⟨?_, ?_, by rw [hv] at hi ⊢; simp [AV.den, hi, locV]⟩⟩
    · refine ⟨locV v, (List.range n).map fun r => .slice (A r) (L r) (C r), hi, ?_, by simp, ?_, ?_, fun h0 => ?_⟩
      · have : AV.denL ρ ((List.range n).map (tblC j (fun q => ((Z q).take (L q)).length) none)) = some ((List.range n).map fun r => .slice (A r) (L r) (C r)) := by
          have hall : ∀ (l : List Nat), (∀ q ∈ l, q < n) → AV.denL ρ (l.map (tblC j (fun q => ((Z q).take (L q)).length) none)) = some (l.map fun r => .slice (A r) (L r) (C r)) := by
            intro l
            induction l with
            | nil => intro _; rfl
            | cons q l ih =>
              intro hq
              have hqn := hq q List.mem_cons_self
              simp only [List.map_cons, AV.denL]
              rw [ih fun q hm => hq q (List.mem_cons_of_mem _ hm)]
              have hd : AV.den ρ (tblC j (fun q => ((Z q).take (L q)).length) none q) = some (.slice (A q) (L q) (C q)) := by
                simp only [tblC, AV.den, hj, locV, Option.bind_some, Tb.den, locs_N, hlen q hqn]
                simp [hqn]
              rw [hd]
              rfl
          exact hall _ fun q hq => List.mem_range.1 hq
        exact this
      · rw [hv]; exact h1
      · rw [hv, capOk_pos (by decide)]; exact h2
      · obtain ⟨a, e1, e2⟩ := h3 (by omega)
        refine ⟨a, by rw [hv]; exact e1, fun q u hu => ?_⟩
        rw [List.getElem?_map] at hu
        cases hg : (List.range n)[q]? with
        | none => rw [hg] at hu; cases hu
        | some z =>
          rw [hg] at hu
          cases hu
          obtain ⟨hlt, e3⟩ := List.getElem?_eq_some_iff.1 hg
          have : z = q := by simpa using e3.symm
          subst this
          exact e2 z (by simpa using hlt)
    · refine ⟨_, hj, by decide, by simp [locV, locs_N], fun e rr er => ?_, fun h => by cases h⟩
      simp only [locV, locs_N] at er
      rw [List.getElem?_map] at er
      cases hg : (List.range n)[e]? with
      | none => rw [hg] at er; cases er
      | some z =>
        rw [hg] at er
        cases er
        obtain ⟨hlt, e3⟩ := List.getElem?_eq_some_iff.1 hg
        have : z = e := by simpa using e3.symm
        subst this
        have hz : z < n := by simpa using hlt
        obtain ⟨g1, g2, g3, g4, g5⟩ := h4 z hz
        refine ⟨((Z z).take (L z)).map (Value.int .i64), fun ρ' => ints_den ρ' .i64 _, by simp, ?_, g2, fun h0 => ?_, fun h => by cases h⟩
        · show ((Z z).take (L z)).length ≤ C z
          rw [hlen z hz]; exact g1
        · have h0 : 0 < L z := by have := hlen z hz; simp only [Nat.mul_one] at h0; omega
          cases hA : A z with
          | none => have := g4 hA; omega
          | some a' =>
            refine ⟨a', hA, fun q u hu => ?_⟩
            rw [List.getElem?_map] at hu
            cases hq : ((Z z).take (L z))[q]? with
            | none => rw [hq] at hu; cases hu
            | some x =>
              rw [hq] at hu
              cases hu
              have hq' := (List.getElem?_eq_some_iff.1 hq).1
              rw [hlen z hz] at hq'
              rw [g5 a' hA q (by omega)]
              rw [List.getElem?_take_of_lt hq'] at hq
              rw [List.getD_eq_getElem?_getD, hq]
              rfl
  rcases Go.Deep.open_int_rows ht he hq ce cq hf with ⟨h1, _⟩ | ⟨a, len, cap, A, L, C, Z, h1, _, h2, h3, _, h4⟩
  · have hv : v = .slice none 0 0 := by simpa using h1
    exact build none 0 0 (fun _ => none) (fun _ => 0) (fun _ => 0) (fun _ => []) hv (Nat.le_refl _) (Nat.zero_le _) (fun h => absurd h (Nat.lt_irrefl _)) (fun r hr => absurd hr (Nat.not_lt_zero _))
  · have hv : v = .slice (some a) len cap := by simpa using h1
    refine build (some a) len cap A L C Z hv h2 h3 (fun _ => ⟨a, rfl, fun r hr => (h4 r (by omega)).1⟩) fun r hr => ?_
    obtain ⟨_, g1, g2, g3, _, g5, g6⟩ := h4 r (by omega)
    exact ⟨g1, g2, g3, g5, fun a' ha' c hc => (g6 a' ha').2 c hc⟩
set_option maxRecDepth 20000 in
theorem open_table {W : World} {H : Type} {enc : TypeId × Value → H} {r : Reach} {b0 : Nat} {v : Value} {d : DataW H} {p : List MemPlace} (hval : Value.okWide Tryz.prog W r b0 52 v)
    (h : DataW.Trod enc Tryz.prog W 0 (fun _ => true) true 52 v d p) : ∃ (n : Nat) (R : Nat → List Int) (fk : Value), TabRd W v fk n R := by
  have ht : Tryz.prog.underlying 52 = some (.slice 45) := by kernel_rfl
  simp only [Value.okWide, ht] at hval
  obtain ⟨fuel, hf⟩ := h
  have hc : v.cells.toList = [v] := by
    cases v with
    | agg cs => simp [Cell.okWide, Cell.ok, ht] at hval
    | _ => rfl
  rw [hc] at hf
  exact open_table_rd hf

end Go.Proofs.YtfmnfagcbehmdaaGreatDoor
