/- Arguments opened by their types: structs and arrays of integers and strings, slices of them. -/
import Derived.LaidMore
import Derived.ProofKit
import Derived.OpenShut
import Derived.Deep.SlicePairs
import Derived.Deep.Strs
import Derived.Deep.DeepHandedRow
import Derived.Test.YtlhgddgoblliaaaGreatDoorQk
set_option linter.unusedVariables false
set_option linter.unusedSimpArgs false
namespace Go.Proofs.YtlhgddgoblliaaaGreatDoor
open Go.RowKit Go.Sym
open Go.ChangeShapes Go.WideShapes Go.ChangeAt

inductive FK where
  | int (k : IntKind)
  | str
def FK.is : FK → Value → Prop
  | .int k, .int k' n => k' = k ∧ (Lit.int k n).wf = true
  | .str, .string s => s.size ≤ maxLen
  | _, _ => False
def Flat : List FK → List Value → Prop
  | [], [] => True
  | k :: ks, v :: vs => k.is v ∧ Flat ks vs
  | _, _ => False
def repF : Nat → List FK → List FK
  | 0, _ => []
  | n + 1, l => l ++ repF n l
def flatFs (P : Program) (g : TypeId → Option (List FK)) : List Field → Nat → Option (List FK)
  | [], _ => some []
  | x :: l, off => match Nat.beq x.offset off, g x.type with
    | true, some a => match Nat.beq (P.cellsOf x.type) a.length, flatFs P g l (off + a.length) with
      | true, some b => some (a ++ b)
      | _, _ => none
    | _, _ => none
def flatT (P : Program) : Nat → TypeId → Option (List FK)
  | 0, _ => none
  | n + 1, t => match P.underlying t with
    | some (.int k) => some [.int k]
    | some .string => some [.str]
    | some (.struct fs) => match flatFs P (flatT P n) fs.toList 0 with
      | some l => match Nat.beq (P.cellsOf t) l.length with | true => some l | false => none
      | none => none
    | some (.array m e) => match flatT P n e with
      | some l => match Nat.beq (P.cellsOf e) l.length && Nat.beq (P.cellsOf t) (m * l.length) with | true => some (repF m l) | false => none
      | none => none
    | _ => none
theorem Flat.append : ∀ {a b : List FK} {x y : List Value}, Flat a x → Flat b y → Flat (a ++ b) (x ++ y)
  | [], _, [], _, _, h => h
  | [], _, _ :: _, _, h, _ => h.elim
  | _ :: _, _, [], _, h, _ => h.elim
  | _ :: _, _, _ :: _, _, ⟨h1, h2⟩, h => ⟨h1, Flat.append h2 h⟩
theorem Flat.len : ∀ {a : List FK} {x : List Value}, Flat a x → x.length = a.length
  | [], [], _ => rfl
  | [], _ :: _, h => h.elim
  | _ :: _, [], h => h.elim
  | _ :: _, _ :: _, ⟨_, h⟩ => by simp [h.len]
section
variable {H : Type} {enc : TypeId × Value → H} {P : Program} {w : World} {base : Nat} {spare : Nat → Bool} {held : Bool}
theorem flatFs_cells {g : TypeId → Option (List FK)} {cs : List Value} (ih : ∀ t ks fuel c x, g t = some ks → DataW.trod enc P w base spare held fuel t c = some x → Flat ks c) :
    ∀ (l : List Field) (off : Nat) (b : List FK), flatFs P g l off = some b → (∀ f ∈ l, ∃ n y, DataW.trod enc P w base spare held n f.type ((cs.drop f.offset).take (P.cellsOf f.type)) = some y) → Flat b ((cs.drop off).take b.length)
  | [], off, b, h, _ => by cases h; simp [Flat]
  | f :: l, off, b, h, hf => by
    simp only [flatFs] at h
    split at h
    · rename_i a h1 h2
      split at h
      · rename_i b' h3 h4
        cases h
        obtain ⟨n, y, hy⟩ := hf f List.mem_cons_self
        have e1 := Nat.eq_of_beq_eq_true h1
        have e3 := Nat.eq_of_beq_eq_true h3
        rw [e1, e3] at hy
        have k1 := ih _ _ _ _ _ h2 hy
        have k2 := flatFs_cells ih l _ _ h4 (fun f hm => hf f (List.mem_cons_of_mem _ hm))
        rw [List.length_append, List.take_add, List.drop_drop]
        exact k1.append k2
      · cases h
    · cases h
theorem repF_cells {l : List FK} {cs : List Value} : ∀ (m : Nat), (∀ i, i < m → Flat l ((cs.drop (i * l.length)).take l.length)) → Flat (repF m l) (cs.take (m * l.length))
  | 0, _ => by simp [repF, Flat]
  | m + 1, h => by
    have h0 := h 0 (by omega)
    have hr := repF_cells (l := l) (cs := cs.drop l.length) m fun i hi => by
      have := h (i + 1) (by omega)
      rw [Nat.add_mul, Nat.one_mul, Nat.add_comm, ← List.drop_drop] at this
      exact this
    rw [show (m + 1) * l.length = l.length + m * l.length by rw [Nat.add_mul]; omega, List.take_add]
    show Flat (l ++ repF m l) _
    simp only [Nat.zero_mul, List.drop_zero] at h0
    exact h0.append hr
theorem trod_flat : ∀ (n : Nat) (t : TypeId) (ks : List FK) (fuel : Nat) (cs : List Value) (x : DataW H × List MemPlace), flatT P n t = some ks → DataW.trod enc P w base spare held fuel t cs = some x → Flat ks cs
  | 0, _, _, _, _, _, h, _ => by cases h
  | n + 1, t, ks, fuel, cs, x, h, hx => by
    unfold flatT at h
    split at h
    · rename_i k hu
      cases h
      obtain ⟨z, rfl, _, h2⟩ := DataW.trod_int hu hx
      exact ⟨⟨rfl, h2⟩, trivial⟩
    · rename_i hu
      cases h
      obtain ⟨s, rfl, _, h2⟩ := DataW.trod_string hu hx
      exact ⟨h2, trivial⟩
    · rename_i fs hu
      split at h
      · rename_i l hl
        split at h
        · rename_i hb
          cases h
          obtain ⟨xs, m, _, _, hc, hlen, hg⟩ := DataW.trod_struct hu hx
          have k := flatFs_cells (cs := cs) (fun t ks fuel c x e e2 => trod_flat n t ks fuel c x e e2) _ _ _ hl (fun f hf => by
            obtain ⟨i, hi⟩ := List.getElem?_of_mem hf
            have hg' := hg i f (by simpa using hi)
            have hil : i < fs.toList.length := (List.getElem?_eq_some_iff.1 hi).1
            have hil : i < xs.length := by rw [hlen]; simpa using hil
            rw [List.getElem?_eq_getElem hil] at hg'
            exact ⟨_, _, hg'⟩)
          rw [List.drop_zero, List.take_of_length_le (by rw [hc, Nat.eq_of_beq_eq_true hb]; exact Nat.le_refl _)] at k
          exact k
        · cases h
      · cases h
    · rename_i m e hu
      split at h
      · rename_i l hl
        split at h
        · rename_i hb
          cases h
          simp only [Bool.and_eq_true] at hb
          obtain ⟨xs, m', _, _, hc, hlen, hg⟩ := DataW.trod_array hu hx
          have k := repF_cells (l := l) (cs := cs) m fun i hi => by
            have hg' := hg i hi
            rw [Nat.eq_of_beq_eq_true hb.1, List.getElem?_eq_getElem (by omega)] at hg'
            exact trod_flat n _ _ _ _ _ hl hg'
          rw [List.take_of_length_le (by rw [hc, Nat.eq_of_beq_eq_true hb.2]; exact Nat.le_refl _)] at k
          exact k
        · cases h
      · cases h
    · cases h
end

/-- A slice of such elements. -/
theorem open_rows {W : World} {H : Type} {enc : TypeId × Value → H} {P : Program} {t e : TypeId} {k fuel : Nat} {ks : List FK} {v : Value} {x : DataW H × List MemPlace} (ht : P.underlying t = some (.slice e)) (hf : flatT P k e = some ks) (hc : P.cellsOf e = ks.length) (hpos : 0 < ks.length)
    (h : DataW.trod enc P W 0 (fun _ => true) true fuel t [v] = some x) : ∃ R : List (List Value), (∀ r ∈ R, Flat ks r) ∧ Rd W W.heap.size ks.length v R.length R.flatten := by
  rcases Go.Deep.open_slice ht h with ⟨hcs, _⟩ | ⟨a, len, cap, m, n, D, Pl, hcs, _, hl, hm, hmm, _, hx⟩
  · cases hcs; exact ⟨[], by simp, Rd.nil _ _ _⟩
  · cases hcs
    simp only [if_true] at hmm
    subst hmm
    rw [hc] at hx
    have key : ∀ m, m ≤ len → ∃ R : List (List Value), R.length = m ∧ (∀ r ∈ R, Flat ks r) ∧ ∀ j u, R.flatten[j]? = some u → W.cell? (a.add j) = some u := by
      intro m
      induction m with
      | zero => exact fun _ => ⟨[], rfl, by simp, by simp⟩
      | succ m ih =>
        intro hml
        obtain ⟨R, h1, h2, h3⟩ := ih (by omega)
        obtain ⟨c, g1, g2⟩ := hx m (by omega)
        have hfl := trod_flat k _ _ _ _ _ hf g2
        have hRl : R.flatten.length = m * ks.length := by
          rw [← h1]
          clear h3 h1
          induction R with
          | nil => simp
          | cons r R ihR => rw [List.flatten_cons, List.length_append, (h2 r List.mem_cons_self).len, ihR (fun r hr => h2 r (List.mem_cons_of_mem _ hr)), List.length_cons, Nat.add_mul]; omega
        refine ⟨R ++ [c], by simp [h1], fun r hr => ?_, fun j u hj => ?_⟩
        · rcases List.mem_append.1 hr with hr | hr
          · exact h2 r hr
          · simp only [List.mem_singleton] at hr; subst hr; exact hfl
        · rw [List.flatten_append] at hj
          by_cases hjl : j < R.flatten.length
          · rw [List.getElem?_append_left hjl] at hj
            exact h3 j u hj
          · rw [List.getElem?_append_right (by omega), hRl] at hj
            simp only [List.flatten_cons, List.flatten_nil, List.append_nil] at hj
            obtain ⟨_, g4, g5⟩ := World.cells?_some g1
            have g6 := (List.getElem?_eq_some_iff.1 hj).1
            have := g5 (j - m * ks.length) (by omega)
            rw [hj, addr_add'] at this
            rwa [show m * ks.length + (j - m * ks.length) = j by omega] at this
    obtain ⟨R, h1, h2, h3⟩ := key len (Nat.le_refl _)
    have hRl : R.flatten.length = R.length * ks.length := by
      clear h3 h1
      induction R with
      | nil => simp
      | cons r R ihR => rw [List.flatten_cons, List.length_append, (h2 r List.mem_cons_self).len, ihR (fun r hr => h2 r (List.mem_cons_of_mem _ hr)), List.length_cons, Nat.add_mul]; omega
    refine ⟨R, h2, hRl, some a, m, by rw [h1], by omega, hm, fun h0 => ⟨a, rfl, ?_, h3⟩⟩
    obtain ⟨r, R', rfl⟩ : ∃ r R', R = r :: R' := by cases R with | nil => simp at h0 | cons r R' => exact ⟨_, _, rfl⟩
    have hr := (h2 r List.mem_cons_self).len
    obtain ⟨u, r', rfl⟩ : ∃ u r', r = u :: r' := by cases r with | nil => simp at hr; omega | cons u r' => exact ⟨_, _, rfl⟩
    have h4 := h3 0 u (by simp)
    have := World.block_lt_of_cell? W _ h4
    rwa [addr_block'] at this
/-- Lists of what rows say. -/
theorem rows_map {α : Type} {f : α → List Value} : ∀ {R : List (List Value)}, (∀ r ∈ R, ∃ x, r = f x) → ∃ L : List α, R = L.map f
  | [], _ => ⟨[], rfl⟩
  | r :: R, h => by
    obtain ⟨x, hx⟩ := h r List.mem_cons_self
    obtain ⟨L, hL⟩ := rows_map fun r hr => h r (List.mem_cons_of_mem _ hr)
    exact ⟨x :: L, by rw [hx, hL]; rfl⟩
theorem flat_int {k : IntKind} {ks : List FK} {l : List Value} (h : Flat (.int k :: ks) l) : ∃ x l', l = .int k x :: l' ∧ (Lit.int k x).wf = true ∧ Flat ks l' := by
  match l, h with
  | v :: l', ⟨h1, h2⟩ =>
    cases v <;> first | exact h1.elim | skip
    obtain ⟨rfl, h3⟩ := h1
    exact ⟨_, _, rfl, h3, h2⟩
theorem flat_str {ks : List FK} {l : List Value} (h : Flat (.str :: ks) l) : ∃ s l', l = .string s :: l' ∧ s.size ≤ maxLen ∧ Flat ks l' := by
  match l, h with
  | v :: l', ⟨h1, h2⟩ =>
    cases v <;> first | exact h1.elim | skip
    exact ⟨_, _, rfl, h1, h2⟩
theorem flat_nil {l : List Value} (h : Flat [] l) : l = [] := by cases l with | nil => rfl | cons => exact h.elim
/-- A struct or an array of such. -/
theorem open_flat {W : World} {H : Type} {enc : TypeId × Value → H} {P : Program} {r : Reach} {b0 : Nat} {sp : Nat → Bool} {t : TypeId} {k : Nat} {ks : List FK} {v : Value} {d : DataW H} {p : List MemPlace} (hs : (∃ fs, P.underlying t = some (.struct fs)) ∨ ∃ m e, P.underlying t = some (.array m e)) (hf : flatT P k t = some ks)
    (hval : Value.okWide P W r b0 t v) (h : DataW.Trod enc P W 0 sp true t v d p) : ∃ l : List Value, v = .agg l.toArray ∧ Flat ks l := by
  obtain ⟨cs, rfl⟩ : ∃ cs, v = .agg cs := by
    rcases hs with ⟨fs, hu⟩ | ⟨m, e, hu⟩
    · obtain ⟨cs, rfl, _⟩ := okWide_struct hu hval; exact ⟨cs, rfl⟩
    · simp only [Value.okWide, hu] at hval; obtain ⟨cs, rfl, _⟩ := hval; exact ⟨cs, rfl⟩
  obtain ⟨fuel, hx⟩ := h
  exact ⟨cs.toList, by simp, trod_flat k _ _ _ _ _ hf hx⟩
theorem slice_cells {P : Program} {W : World} {r : Reach} {b0 : Nat} {t e : TypeId} {v : Value} (ht : P.underlying t = some (.slice e)) (hval : Value.okWide P W r b0 t v) : v.cells.toList = [v] := by
  cases v with
  | agg cs => simp [Value.okWide, Cell.okWide, Cell.ok, ht] at hval
  | _ => rfl

/-- Elements of two, of three integers. -/
structure Z2 where
  x : Int
  y : Int
structure Z3 where
  x : Int
  y : Int
  z : Int
section
variable {P : Program} {W : World} {H : Type} {enc : TypeId × Value → H} {r : Reach} {b0 : Nat} {sp : Nat → Bool} {t e : TypeId} {v : Value} {d : DataW H} {p : List MemPlace}
theorem open_z2 (hs : (∃ fs, P.underlying t = some (.struct fs)) ∨ ∃ m e, P.underlying t = some (.array m e)) (hf : flatT P 6 t = some [.int .i64, .int .i64]) (hval : Value.okWide P W r b0 t v)
    (h : DataW.Trod enc P W 0 sp true t v d p) : ∃ x y : Int, v = .agg #[.int .i64 x, .int .i64 y] := by
  obtain ⟨l, rfl, hl⟩ := open_flat hs hf hval h
  obtain ⟨x, l, rfl, _, hl⟩ := flat_int hl
  obtain ⟨y, l, rfl, _, hl⟩ := flat_int hl
  obtain rfl := flat_nil hl
  exact ⟨x, y, rfl⟩
theorem open_ints1 (ht : P.underlying t = some (.slice e)) (hf : flatT P 6 e = some [.int .i64]) (hc : P.cellsOf e = 1) (hval : Value.okWide P W r b0 t v) (h : DataW.Trod enc P W 0 (fun _ => true) true t v d p) : ∃ l : List Int, Rd W W.heap.size 1 v l.length (l.map (Value.int .i64)) := by
  obtain ⟨fuel, hx⟩ := h
  rw [slice_cells ht hval] at hx
  obtain ⟨R, h1, h2⟩ := open_rows ht hf hc (by decide) hx
  obtain ⟨L, rfl⟩ := rows_map (f := fun z : Int => [Value.int .i64 z]) fun r hr => by
    obtain ⟨x, l, rfl, _, hl⟩ := flat_int (h1 r hr)
    obtain rfl := flat_nil hl
    exact ⟨x, rfl⟩
  refine ⟨L, ?_⟩
  have e : (L.map fun z : Int => [Value.int .i64 z]).flatten = L.map (Value.int .i64) := by
    clear h1 h2
    induction L with
    | nil => rfl
    | cons a L ih => simp only [List.map_cons, List.flatten_cons, ih]; rfl
  rw [List.length_map, e] at h2
  exact h2
end
theorem insC_cells (l : List Int) : (Cont.ints .i64 l).cells = (l.map (Value.int .i64)).map AV.lit := by simp [Cont.cells]

end Go.Proofs.YtlhgddgoblliaaaGreatDoor
