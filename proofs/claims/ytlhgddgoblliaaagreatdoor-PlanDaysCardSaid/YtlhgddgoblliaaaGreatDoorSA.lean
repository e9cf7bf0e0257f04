/- Symbolic runs of Go code, first part: values, chunks, operations. No program in sight. -/
import Derived.WalkKit
import Derived.WalkLawsBesides
import Derived.Laws.OwnMore
import Derived.Laws.AppendOwn
import Derived.Maps.AppendAt
import Derived.Below
import Derived.OrdersHeld
import Derived.Laws.Cells
import Derived.Laws.MakeOwn
import Derived.RangeFuncRecord
import Derived.MapKept
import Derived.Carry
import Derived.Lib.OthersKept
import Derived.RangeFuncCalls
import Derived.OrdersIn
set_option linter.unusedVariables false
set_option linter.unusedSimpArgs false
namespace Go.Sym
open Go.RowKit

/-- Where a chunk of memory lies: its first cell, and the capacity of a slice over it. -/
structure Loc where
  ad : Option Addr
  cap : Nat

abbrev Env := Nat → Option Loc

/-! Lists of numbers as numbers: where the rows of a table lie. -/
def encL : List Nat → Nat
  | [] => 0
  | a :: l => 2 ^ a * (2 * encL l + 1)
def decG : Nat → Nat → Nat → List Nat
  | 0, _, _ => []
  | f + 1, acc, n => if n = 0 then [] else if n % 2 = 0 then decG f (acc + 1) (n / 2) else acc :: decG f 0 (n / 2)
def decL (n : Nat) : List Nat := decG (n + 1) 0 n
theorem decG_pow (m : Nat) (hm : 0 < m) : ∀ (a f acc : Nat), decG (f + a) acc (2 ^ a * m) = decG f (acc + a) m
  | 0, f, acc => by simp
  | a + 1, f, acc => by
    have h0 : 0 < 2 ^ a * m := Nat.mul_pos (Nat.pow_pos (by decide)) hm
    have e : 2 ^ (a + 1) * m = 2 * (2 ^ a * m) := by rw [Nat.pow_succ, Nat.mul_comm (2 ^ a) 2, Nat.mul_assoc]
    rw [show f + (a + 1) = (f + a) + 1 by omega, e]
    simp only [decG]
    rw [if_neg (by omega), if_pos (by omega), show 2 * (2 ^ a * m) / 2 = 2 ^ a * m by omega, decG_pow m hm a f (acc + 1), show acc + 1 + a = acc + (a + 1) by omega]
theorem decG_enc : ∀ (l : List Nat) (f : Nat), encL l < f → decG f 0 (encL l) = l
  | [], f, h => by
    obtain ⟨g, rfl⟩ : ∃ g, f = g + 1 := ⟨f - 1, by omega⟩
    simp [decG, encL]
  | a :: l, f, h => by
    have h1 : a < 2 ^ a := Nat.lt_two_pow_self
    have h2 : 2 ^ a * (2 * encL l + 1) = 2 * (2 ^ a * encL l) + 2 ^ a := by rw [Nat.mul_add, Nat.mul_one, ← Nat.mul_assoc, Nat.mul_comm (2 ^ a) 2, Nat.mul_assoc]
    have h3 : encL l ≤ 2 ^ a * encL l := Nat.le_mul_of_pos_left _ (Nat.pow_pos (by decide))
    simp only [encL] at h ⊢
    obtain ⟨g, rfl⟩ : ∃ g, f = (g + 1) + a := ⟨f - 1 - a, by omega⟩
    rw [decG_pow _ (by omega)]
    simp only [decG]
    rw [if_neg (by omega), if_neg (by omega), show (2 * encL l + 1) / 2 = encL l by omega, decG_enc l g (by omega)]
    simp
theorem decL_enc (l : List Nat) : decL (encL l) = l := decG_enc l _ (Nat.lt_succ_self _)

def locN : Option Addr × Nat → Nat
  | (none, c) => encL [c]
  | (some a, c) => encL [a.block, a.off, (match a.spot with | none => 0 | some x => x + 1), c]
def locOf (n : Nat) : Option Addr × Nat := match decL n with
  | [c] => (none, c)
  | [b, o, s, c] => (some ⟨b, o, match s with | 0 => none | x + 1 => some x⟩, c)
  | _ => (none, 0)
theorem locOf_locN (r : Option Addr × Nat) : locOf (locN r) = r := by
  obtain ⟨a, c⟩ := r
  cases a with
  | none => simp [locOf, locN, decL_enc]
  | some a =>
    obtain ⟨b, o, sp⟩ := a
    cases sp <;> simp [locOf, locN, decL_enc]
/-- Where the rows of a table lie. -/
def locsN (l : List (Option Addr × Nat)) : Nat := encL (l.map locN)
def locs (n : Nat) : List (Option Addr × Nat) := (decL n).map locOf
theorem locs_N (l : List (Option Addr × Nat)) : locs (locsN l) = l := by
  unfold locs locsN
  rw [decL_enc]
  simp [Function.comp_def, locOf_locN]

/-- A row as a slice, the place of a row's element. -/
inductive Tb where
  | row (e n : Nat)
  | cell (e k sz f : Nat)
  deriving Inhabited
def Tb.den (L : Loc) : Tb → Option Value
  | .row e n => (locs L.cap)[e]?.map fun r => .slice r.1 n r.2
  | .cell e k sz f => (locs L.cap)[e]?.bind fun r => r.1.map fun a => .pointer (some (a.add (k * sz + f)))
theorem Tb.den_one {L : Loc} {x : Tb} {v : Value} (h : x.den L = some v) : (∃ a n c, v = .slice a n c) ∨ ∃ a, v = .pointer (some a) := by
  cases x with
  | row e n => simp only [Tb.den, Option.map_eq_some_iff] at h; obtain ⟨a, _, rfl⟩ := h; exact .inl ⟨_, _, _, rfl⟩
  | cell e k sz f => simp only [Tb.den, Option.bind_eq_some_iff, Option.map_eq_some_iff] at h; obtain ⟨r, _, a, _, rfl⟩ := h; exact .inr ⟨_, rfl⟩

/-- An abstract value: what it says of memory it says by the numbers of chunks. -/
inductive AV where
  | lit (v : Value)
  | ptr (i e sz j : Nat)
  | sl (i n : Nat)
  | agg (l : List AV)
  | tup (l : List AV)
  | fn (f : FuncId) (first cap : List AV)
  | cnd (b : Bool) (x : AV)
  | yld (i : Nat)
  | mp (i : Nat)
  | tb (i : Nat) (x : Tb)
  deriving Inhabited

def listO : Option Value → Option (List Value) → Option (List Value)
  | some v, some l => some (v :: l)
  | _, _ => none

mutual
def AV.den (ρ : Env) : AV → Option Value
  | .lit v => some v
  | .ptr i e sz j => (ρ i).bind fun L => L.ad.map fun a => .pointer (some (a.add (e * sz + j)))
  | .sl i n => (ρ i).map fun L => .slice L.ad n L.cap
  | .agg l => (AV.denL ρ l).map fun vs => .agg vs.toArray
  | .tup l => (AV.denL ρ l).map fun vs => .tuple vs.toArray
  | .fn f a b => (AV.denL ρ a).bind fun x => (AV.denL ρ b).map fun y => .func (.func f) x.toArray y.toArray
  | .cnd b x => match b with | true => x.den ρ | false => some undef
  | .yld i => (ρ i).bind fun L => L.ad.map fun a => .func (.yield a.block) #[] #[]
  | .mp i => (ρ i).bind fun L => L.ad.map fun a => .map (some a.block)
  | .tb i x => (ρ i).bind fun L => x.den L
def AV.denL (ρ : Env) : List AV → Option (List Value)
  | [] => some []
  | a :: l => listO (a.den ρ) (AV.denL ρ l)
end

def Env.le (ρ ρ' : Env) : Prop := ∀ i L, ρ i = some L → ρ' i = some L
theorem Env.le.refl (ρ : Env) : Env.le ρ ρ := fun _ _ h => h
theorem Env.le.trans {a b c : Env} (h : Env.le a b) (k : Env.le b c) : Env.le a c := fun i L x => k i L (h i L x)

theorem listO_some {a : Option Value} {b : Option (List Value)} {l : List Value} (h : listO a b = some l) : ∃ v vs, a = some v ∧ b = some vs ∧ l = v :: vs := by
  cases a <;> cases b <;> simp [listO] at h
  exact ⟨_, _, rfl, rfl, h.symm⟩

mutual
theorem AV.den_mono {ρ ρ' : Env} (h : Env.le ρ ρ') : ∀ (a : AV) (v : Value), a.den ρ = some v → a.den ρ' = some v
  | .lit _, v, e => by simpa [AV.den] using e
  | .ptr i e sz j, v, hv => by
    simp only [AV.den] at hv ⊢
    cases hL : ρ i with
    | none => simp [hL] at hv
    | some L => rw [h i L hL]; rw [hL] at hv; exact hv
  | .sl i n, v, hv => by
    simp only [AV.den] at hv ⊢
    cases hL : ρ i with
    | none => simp [hL] at hv
    | some L => rw [h i L hL]; rw [hL] at hv; exact hv
  | .agg l, v, hv => by
    simp only [AV.den] at hv ⊢
    cases hl : AV.denL ρ l with
    | none => simp [hl] at hv
    | some vs => rw [AV.denL_mono h l vs hl]; rw [hl] at hv; exact hv
  | .tup l, v, hv => by
    simp only [AV.den] at hv ⊢
    cases hl : AV.denL ρ l with
    | none => simp [hl] at hv
    | some vs => rw [AV.denL_mono h l vs hl]; rw [hl] at hv; exact hv
  | .fn f a b, v, hv => by
    simp only [AV.den] at hv ⊢
    cases ha : AV.denL ρ a with
    | none => simp [ha] at hv
    | some x =>
      cases hb : AV.denL ρ b with
      | none => simp [ha, hb] at hv
      | some y => rw [AV.denL_mono h a x ha, AV.denL_mono h b y hb]; rw [ha, hb] at hv; exact hv
  | .cnd b x, v, hv => by
    cases b
    · simpa [AV.den] using hv
    · simp only [AV.den] at hv ⊢
      exact AV.den_mono h x v hv
  | .yld i, v, hv => by
    simp only [AV.den] at hv ⊢
    cases hL : ρ i with
    | none => simp [hL] at hv
    | some L => rw [h i L hL]; rw [hL] at hv; exact hv
  | .mp i, v, hv => by
    simp only [AV.den] at hv ⊢
    cases hL : ρ i with
    | none => simp [hL] at hv
    | some L => rw [h i L hL]; rw [hL] at hv; exact hv
  | .tb i x, v, hv => by
    simp only [AV.den] at hv ⊢
    cases hL : ρ i with
    | none => simp [hL] at hv
    | some L => rw [h i L hL]; rw [hL] at hv; exact hv
theorem AV.denL_mono {ρ ρ' : Env} (h : Env.le ρ ρ') : ∀ (l : List AV) (vs : List Value), AV.denL ρ l = some vs → AV.denL ρ' l = some vs
  | [], vs, e => by simpa [AV.denL] using e
  | a :: l, vs, e => by
    simp only [AV.denL] at e ⊢
    obtain ⟨v, ws, h1, h2, rfl⟩ := listO_some e
    rw [AV.den_mono h a v h1, AV.denL_mono h l ws h2]; rfl
end

theorem denL_len {ρ : Env} : ∀ {l : List AV} {vs : List Value}, AV.denL ρ l = some vs → vs.length = l.length
  | [], vs, e => by simp [AV.denL] at e; simp [e]
  | a :: l, vs, e => by
    simp only [AV.denL] at e
    obtain ⟨v, ws, h1, h2, rfl⟩ := listO_some e
    simp [denL_len h2]
theorem denL_append {ρ : Env} : ∀ {l m : List AV} {vs ws : List Value}, AV.denL ρ l = some vs → AV.denL ρ m = some ws → AV.denL ρ (l ++ m) = some (vs ++ ws)
  | [], m, vs, ws, e, h => by simp [AV.denL] at e; subst e; simpa using h
  | a :: l, m, vs, ws, e, h => by
    simp only [AV.denL] at e
    obtain ⟨v, us, h1, h2, rfl⟩ := listO_some e
    simp only [List.cons_append, AV.denL, h1, denL_append h2 h]; rfl
theorem denL_at {ρ : Env} : ∀ {l : List AV} {vs : List Value} {k : Nat} {a : AV}, AV.denL ρ l = some vs → l[k]? = some a → ∃ v, a.den ρ = some v ∧ vs[k]? = some v
  | [], vs, k, a, e, h => by simp at h
  | b :: l, vs, k, a, e, h => by
    simp only [AV.denL] at e
    obtain ⟨v, us, h1, h2, rfl⟩ := listO_some e
    cases k with
    | zero => simp at h; subst h; exact ⟨v, h1, by simp⟩
    | succ k => simpa using denL_at h2 (by simpa using h)
theorem denL_lits (ρ : Env) (l : List Value) : AV.denL ρ (l.map AV.lit) = some l := by
  induction l with
  | nil => rfl
  | cons a l ih => simp only [List.map_cons, AV.denL, ih, AV.den]; rfl
theorem denL_set {ρ : Env} : ∀ {l : List AV} {vs : List Value} {k : Nat} {a : AV} {v : Value}, AV.denL ρ l = some vs → a.den ρ = some v → AV.denL ρ (l.set k a) = some (vs.set k v)
  | [], vs, k, a, v, e, h => by simp [AV.denL] at e; subst e; simp [AV.denL]
  | b :: l, vs, k, a, v, e, h => by
    simp only [AV.denL] at e
    obtain ⟨u, us, h1, h2, rfl⟩ := listO_some e
    cases k with
    | zero => simp [AV.denL, h, h2, listO]
    | succ k => simp [AV.denL, h1, denL_set h2 h, listO]

def look {α : Type} (k : Nat) : List (Nat × α) → Option α
  | [] => none
  | (j, a) :: l => match Nat.beq k j with | true => some a | false => look k l
theorem look_mem {α : Type} {k : Nat} : ∀ {l : List (Nat × α)} {v : α}, look k l = some v → (k, v) ∈ l
  | [], v, h => by simp [look] at h
  | (j, a) :: l, v, h => by
    simp only [look] at h
    split at h
    · rename_i e
      have : k = j := Nat.eq_of_beq_eq_true e
      subst this
      cases h
      exact List.mem_cons_self
    · exact List.mem_cons_of_mem _ (look_mem h)
theorem look_cons {α : Type} (k j : Nat) (a : α) (l : List (Nat × α)) : look k ((j, a) :: l) = if k = j then some a else look k l := by
  simp only [look]
  split
  · rename_i e
    rw [if_pos (Nat.eq_of_beq_eq_true e)]
  · rename_i e
    rw [if_neg (fun h => by subst h; simp at e)]

/-- What of a range over a function its record tells. -/
inductive RecSt where
  | ready
  | busy
  | ret
  | exit (id : Nat)
  deriving Inhabited
/-- What a block holds that is no row of cells: a map, a set of words, a string that is gone through, the record of a range over a function. -/
inductive ObjK where
  | map (es : List (Value × AV))
  | set (l : List ByteArray)
  | iset (l : List Int)
  | ix (l : List ByteArray)
  | sit (s : ByteArray) (pos : Nat)
  | rcd (T : List (Nat × AV)) (nt : Nat) (ps : Array Tmp) (assign body : Code) (st : RecSt)
  deriving Inhabited

/-- Memory's content, cell by cell. -/
inductive Cont where
  | exp (l : List AV)
  | ints (k : IntKind) (l : List Int)
  | bools (l : List Bool)
  | gen (n sz : Nat) (get : Nat → List Value)
  | app (c : Cont) (l : List AV)
  | tbl (j n : Nat) (len : Nat → Nat) (ex : Option (Nat × AV))
  | jbs (j n sz : Nat) (hd : Nat → List Value) (len : Nat → Nat)
  deriving Inhabited

/-- An element of a table: a row of the family number j, or what was stored there. -/
def tblC (j : Nat) (len : Nat → Nat) (ex : Option (Nat × AV)) (q : Nat) : AV := match ex with
  | some (e, a) => if q = e then a else .tb j (.row q (len q))
  | none => .tb j (.row q (len q))
/-- A cell of a list of structs whose last field is a slice: a row of the family number j. -/
def jbsC (j sz : Nat) (hd : Nat → List Value) (len : Nat → Nat) (p : Nat) : AV := if p % sz + 1 = sz then .tb j (.row (p / sz) (len (p / sz))) else .lit ((hd (p / sz)).getD (p % sz) undef)
def Cont.cells : Cont → List AV
  | .exp l => l
  | .ints k l => l.map fun x => .lit (.int k x)
  | .bools l => l.map fun x => .lit (.bool x)
  | .gen n sz get => (List.range (n * sz)).map fun q => .lit ((get (q / sz)).getD (q % sz) undef)
  | .app c l => c.cells ++ l
  | .tbl j n len ex => (List.range n).map (tblC j len ex)
  | .jbs j n sz hd len => (List.range (n * sz)).map (jbsC j sz hd len)

inductive Chunk where
  | blk (t : TypeId) (l : List AV)
  | rb (t : TypeId) (l : List AV)
  | row (t : TypeId) (n sz : Nat) (c : Cont)
  | ro (n sz : Nat) (c : Cont)
  | obj (k : ObjK)
  | fam (o : Bool) (t : TypeId) (sz n : Nat) (len : Nat → Nat) (c : Nat → Cont)
  deriving Inhabited

def RecSt.state : RecSt → LoopState
  | .ready => .ready
  | .busy => .busy
  | _ => .done
def RecSt.jump : RecSt → Option Code
  | .ret => some .ret
  | .exit id => some (.exit id)
  | _ => none
def Ents (ρ : Env) : Nat → List (Value × AV) → List MapEntry → Prop
  | _, [], m => m = []
  | n, (k, a) :: l, m => ∃ v m', a.den ρ = some v ∧ m = ⟨k, v, n⟩ :: m' ∧ Ents ρ (n + 1) l m'
theorem Ents.mono {ρ ρ' : Env} (h : Env.le ρ ρ') : ∀ {l : List (Value × AV)} {n : Nat} {m : List MapEntry}, Ents ρ n l m → Ents ρ' n l m
  | [], _, _, e => e
  | (_, _) :: _, _, _, ⟨v, m', h1, h2, h3⟩ => ⟨v, m', AV.den_mono h _ _ h1, h2, Ents.mono h h3⟩
def setEnts : Nat → List ByteArray → List MapEntry
  | _, [] => []
  | n, s :: l => ⟨.string s, .bool true, n⟩ :: setEnts (n + 1) l
def isetEnts : Nat → List Int → List MapEntry
  | _, [] => []
  | n, s :: l => ⟨.int .i64 s, .bool true, n⟩ :: isetEnts (n + 1) l
def ixEnts : Nat → List ByteArray → List MapEntry
  | _, [] => []
  | n, s :: l => ⟨.string s, .int .i64 (n : Int), n⟩ :: ixEnts (n + 1) l
def ObjK.is (ρ : Env) (o : Obj) : ObjK → Prop
  | .map es => ∃ m : List MapEntry, Ents ρ 0 es m ∧ o = .map m.toArray es.length
  | .set l => o = .map (setEnts 0 l).toArray l.length
  | .iset l => o = .map (isetEnts 0 l).toArray l.length
  | .ix l => o = .map (ixEnts 0 l).toArray l.length
  | .sit s pos => o = .stringIter s pos
  | .rcd T nt ps as bd st => ∃ (f : FuncId) (tmps : Array Value) (df : Nat), tmps.size = nt ∧ (∀ k av, look k T = some av → ∃ v, av.den ρ = some v ∧ tmps[k]? = some v) ∧
      o = .loop { state := st.state, pending := st.jump, fn := f, tmps := tmps, params := ps, assign := as, body := bd, defers := df }
theorem ObjK.is_mono {ρ ρ' : Env} (h : Env.le ρ ρ') {o : Obj} : ∀ {k : ObjK}, k.is ρ o → k.is ρ' o
  | .map _, ⟨m, h1, h2⟩ => ⟨m, h1.mono h, h2⟩
  | .set _, e => e
  | .iset _, e => e
  | .ix _, e => e
  | .sit _ _, e => e
  | .rcd .., ⟨f, tmps, df, h1, h2, h3⟩ => ⟨f, tmps, df, h1, fun k av e => let ⟨v, h4, h5⟩ := h2 k av e; ⟨v, AV.den_mono h _ _ h4, h5⟩, h3⟩
theorem ObjK.is_odd {ρ : Env} {o : Obj} : ∀ {k : ObjK}, k.is ρ o → ∀ x, o ≠ .deferred x
  | .map _, ⟨_, _, h⟩, x, e => by rw [h] at e; cases e
  | .set _, h, x, e => by rw [show o = _ from h] at e; cases e
  | .iset _, h, x, e => by rw [show o = _ from h] at e; cases e
  | .ix _, h, x, e => by rw [show o = _ from h] at e; cases e
  | .sit _ _, h, x, e => by rw [show o = _ from h] at e; cases e
  | .rcd .., ⟨_, _, _, _, _, h⟩, x, e => by rw [h] at e; cases e

def Chunk.own : Chunk → Bool
  | .ro .. => false
  | .rb .. => false
  | .fam o .. => o
  | _ => true

/-- How great the capacity of a slice that is read may be: of one with elements of no cells, nought. -/
def capOk (sz : Nat) : Nat := match sz with | 0 => 0 | _ => maxLen
theorem capOk_le (sz : Nat) : capOk sz ≤ maxLen := by unfold capOk; split <;> simp
theorem capOk_pos {sz : Nat} (h : 0 < sz) : capOk sz = maxLen := by unfold capOk; split <;> first | omega | rfl
/-- A row of a family. -/
def RowAt (w : World) (r : Option Addr × Nat) (o : Bool) (t : TypeId) (sz n : Nat) (c : Cont) : Prop :=
  ∃ vs, (∀ ρ, AV.denL ρ c.cells = some vs) ∧ vs.length = n * sz ∧ n ≤ r.2 ∧ r.2 ≤ maxLen ∧ (0 < n * sz → ∃ ad, r.1 = some ad ∧ ∀ j u, vs[j]? = some u → w.cell? (ad.add j) = some u) ∧ (o = true → 0 < n * sz → w.ownsRow 0 t sz (.slice r.1 n r.2) n vs)
/-- A family of rows: of a table. -/
def FamAt (w : World) (L : Loc) (o : Bool) (t : TypeId) (sz n : Nat) (len : Nat → Nat) (c : Nat → Cont) : Prop :=
  0 < sz ∧ (locs L.cap).length = n ∧ (∀ e r, (locs L.cap)[e]? = some r → RowAt w r o t sz (len e) (c e)) ∧
    (o = true → ∀ (e e' : Nat) (r r' : Option Addr × Nat) (a a' : Addr), (locs L.cap)[e]? = some r → (locs L.cap)[e']? = some r' → r.1 = some a → r'.1 = some a' → e ≠ e' → 0 < len e * sz → 0 < len e' * sz → a.block ≠ a'.block)
def FamOcc (L : Loc) (_o : Bool) (sz : Nat) (len : Nat → Nat) (g : Nat) : Prop := ∃ e r a, (locs L.cap)[e]? = some r ∧ r.1 = some a ∧ a.block = g ∧ 0 < len e * sz
theorem addr_block0 (a : Addr) (n : Nat) : (a.add n).block = a.block := by unfold Addr.add; split <;> rfl
theorem RowAt.seen {w : World} {r : Option Addr × Nat} {o : Bool} {t : TypeId} {sz n : Nat} {c : Cont} (h : RowAt w r o t sz n c) {a : Addr} (ha : r.1 = some a) (hb : 0 < n * sz) : a.block < w.heap.size ∧ ∀ x, w.heap[a.block]? ≠ some (Obj.deferred x) := by
  obtain ⟨vs, h1, h2, h3, h4, h5, h6⟩ := h
  obtain ⟨ad, e1, h7⟩ := h5 hb
  rw [ha] at e1; cases e1
  have : 0 < vs.length := by omega
  have h8 := h7 0 vs[0] (by simp [this])
  refine ⟨?_, fun x hx => ?_⟩
  · have h9 := World.block_lt_of_cell? w _ h8
    rw [addr_block0] at h9
    exact h9
  · simp only [World.cell?, addr_block0, hx] at h8
    cases h8
theorem RowAt.ext {w w' : World} {r : Option Addr × Nat} {o : Bool} {t : TypeId} {sz n : Nat} {c : Cont} (h : RowAt w r o t sz n c) (hk : ∀ a, r.1 = some a → 0 < n * sz → w'.heap[a.block]? = w.heap[a.block]?) : RowAt w' r o t sz n c := by
  obtain ⟨vs, h1, h2, h3, h4, h5, h6⟩ := h
  refine ⟨vs, h1, h2, h3, h4, fun h0 => ?_, fun ho h0 => ?_⟩
  · obtain ⟨ad, e1, h7⟩ := h5 h0
    refine ⟨ad, e1, fun j u hu => ?_⟩
    rw [World.cell?_of_block (w := w)]
    · exact h7 j u hu
    · rw [addr_block0]; exact hk _ e1 h0
  · obtain ⟨h8, h9⟩ := h6 ho h0
    refine ⟨h8, ?_⟩
    rcases h9 with h9 | ⟨g, cap, cur, e1, e2, e3, rest⟩
    · exact .inl h9
    · injection e1 with e1 e4 e5
      exact .inr ⟨g, cap, cur, by rw [e1, e5], e2, (hk _ e1 h0).trans e3, rest⟩
theorem FamAt.seen {w : World} {L : Loc} {o : Bool} {t : TypeId} {sz n : Nat} {len : Nat → Nat} {c : Nat → Cont} (h : FamAt w L o t sz n len c) {g : Nat} (hg : FamOcc L o sz len g) : g < w.heap.size ∧ ∀ x, w.heap[g]? ≠ some (Obj.deferred x) := by
  obtain ⟨e, r, a, h1, h2, rfl, h3⟩ := hg
  exact (h.2.2.1 e r h1).seen h2 h3
theorem FamAt.ext {w w' : World} {L : Loc} {o : Bool} {t : TypeId} {sz n : Nat} {len : Nat → Nat} {c : Nat → Cont} (h : FamAt w L o t sz n len c) (hk : ∀ g, FamOcc L o sz len g → w'.heap[g]? = w.heap[g]?) : FamAt w' L o t sz n len c :=
  ⟨h.1, h.2.1, fun e r er => (h.2.2.1 e r er).ext fun a ha hb => hk _ ⟨e, r, a, er, ha, rfl, hb⟩, h.2.2.2⟩

/-- The chunk number i holds in a world. -/
def Chunk.holds (ρ : Env) (i : Nat) (w : World) : Chunk → Prop
  | .blk t l => ∃ g cap vs, ρ i = some ⟨some ⟨g, 0, none⟩, cap⟩ ∧ AV.denL ρ l = some vs ∧ w.heap[g]? = some (.cells vs.toArray t (0, 0))
  | .rb _ l => ∃ g cap vs, ρ i = some ⟨some ⟨g, 0, none⟩, cap⟩ ∧ AV.denL ρ l = some vs ∧ ∃ t fr, w.heap[g]? = some (.cells vs.toArray t fr)
  | .row t n sz c => ∃ L vs, ρ i = some L ∧ AV.denL ρ c.cells = some vs ∧ w.ownsRow 0 t sz (.slice L.ad n L.cap) n vs
  | .obj k => ∃ g cap o, ρ i = some ⟨some ⟨g, 0, none⟩, cap⟩ ∧ k.is ρ o ∧ w.heap[g]? = some o
  | .fam o t sz n len c => ∃ L, ρ i = some L ∧ FamAt w L o t sz n len c
  | .ro n sz c => ∃ L vs, ρ i = some L ∧ AV.denL ρ c.cells = some vs ∧ vs.length = n * sz ∧ n ≤ L.cap ∧ L.cap ≤ capOk sz ∧ (0 < n * sz → ∃ ad, L.ad = some ad ∧ ∀ j u, vs[j]? = some u → w.cell? (ad.add j) = some u)

/-- The blocks that it lies in. -/
def Chunk.occ (ρ : Env) (i : Nat) (g : Nat) : Chunk → Prop
  | .ro n sz _ => 0 < n * sz ∧ ∃ L a, ρ i = some L ∧ L.ad = some a ∧ a.block = g
  | .fam o _ sz _ len _ => ∃ L, ρ i = some L ∧ FamOcc L o sz len g
  | _ => ∃ L a, ρ i = some L ∧ L.ad = some a ∧ a.block = g

/-- A row of a family as a chunk of its own. -/
theorem RowAt.ro {w : World} {r : Option Addr × Nat} {o : Bool} {t : TypeId} {sz n : Nat} {c : Cont} (h : RowAt w r o t sz n c) (hs : 0 < sz) {ρ : Env} {i : Nat} (hρ : ρ i = some ⟨r.1, r.2⟩) : (Chunk.ro n sz c).holds ρ i w := by
  obtain ⟨vs, h1, h2, h3, h4, h5, h6⟩ := h
  exact ⟨_, vs, hρ, h1 ρ, h2, h3, by rw [capOk_pos hs]; exact h4, h5⟩
theorem Chunk.occ_mono {ρ ρ' : Env} (h : Env.le ρ ρ') {i g : Nat} {c : Chunk} {w : World} (hc : c.holds ρ i w) : c.occ ρ' i g → c.occ ρ i g := by
  have key : ∀ {L}, ρ i = some L → (∃ L' a, ρ' i = some L' ∧ L'.ad = some a ∧ a.block = g) → ∃ L' a, ρ i = some L' ∧ L'.ad = some a ∧ a.block = g := by
    rintro L hL ⟨L', a, h1, h2, h3⟩
    rw [h i L hL] at h1
    cases h1
    exact ⟨L, a, hL, h2, h3⟩
  cases c with
  | blk t l => obtain ⟨b, cap, vs, h1, _⟩ := hc; exact key h1
  | rb t l => obtain ⟨b, cap, vs, h1, _⟩ := hc; exact key h1
  | row t n sz c => obtain ⟨L, vs, h1, _⟩ := hc; exact key h1
  | obj k => obtain ⟨b, cap, o, h1, _⟩ := hc; exact key h1
  | ro n sz c => obtain ⟨L, vs, h1, _⟩ := hc; exact fun ⟨h0, x⟩ => ⟨h0, key h1 x⟩
  | fam o t sz n len c =>
    obtain ⟨L, h1, _⟩ := hc
    rintro ⟨L', h2, h3⟩
    rw [h i L h1] at h2
    cases h2
    exact ⟨L, h1, h3⟩

theorem addr_block' (a : Addr) (n : Nat) : (a.add n).block = a.block := by unfold Addr.add; split <;> rfl

theorem Chunk.holds_lt {ρ : Env} {i g : Nat} {c : Chunk} {w : World} (hc : c.holds ρ i w) (ho : c.occ ρ i g) : g < w.heap.size := by
  cases c with
  | blk t l =>
    obtain ⟨b, cap, vs, h1, _, h3⟩ := hc
    obtain ⟨L, a, e1, e2, e3⟩ := ho
    rw [h1] at e1; cases e1; cases e2; subst e3
    exact (Array.getElem?_eq_some_iff.1 h3).1
  | rb t l =>
    obtain ⟨b, cap, vs, h1, _, _, _, h3⟩ := hc
    obtain ⟨L, a, e1, e2, e3⟩ := ho
    rw [h1] at e1; cases e1; cases e2; subst e3
    exact (Array.getElem?_eq_some_iff.1 h3).1
  | obj k =>
    obtain ⟨b, cap, o, h1, _, h3⟩ := hc
    obtain ⟨L, a, e1, e2, e3⟩ := ho
    rw [h1] at e1; cases e1; cases e2; subst e3
    exact (Array.getElem?_eq_some_iff.1 h3).1
  | row t n sz c =>
    obtain ⟨L, vs, h1, _, h3⟩ := hc
    obtain ⟨L', a, e1, e2, e3⟩ := ho
    rw [h1] at e1; cases e1
    refine (h3.lt g ?_).2
    rw [e2]; simp [Value.ownBlock, e3]
  | ro n sz c =>
    obtain ⟨L, vs, h1, h2, h3, _, _, h4⟩ := hc
    obtain ⟨h0, L', a, e1, e2, e3⟩ := ho
    rw [h1] at e1; cases e1
    obtain ⟨ad, e4, h5⟩ := h4 h0
    rw [e4] at e2; cases e2
    have : 0 < vs.length := by omega
    have h6 := h5 0 vs[0] (by simp [this])
    have h7 := World.block_lt_of_cell? w _ h6
    rw [addr_block'] at h7
    omega
  | fam o t sz n len c =>
    obtain ⟨L, h1, h2⟩ := hc
    obtain ⟨L', e1, e2⟩ := ho
    rw [h1] at e1; cases e1
    exact (h2.seen e2).1

/-- What is seen is no block of deferred calls. -/
theorem Chunk.holds_odd {ρ : Env} {i g : Nat} {c : Chunk} {w : World} (hc : c.holds ρ i w) (ho : c.occ ρ i g) : ∀ x, w.heap[g]? ≠ some (Obj.deferred x) := by
  intro x hx
  cases c with
  | blk t l =>
    obtain ⟨b, cap, vs, h1, _, h3⟩ := hc
    obtain ⟨L, a, e1, e2, e3⟩ := ho
    rw [h1] at e1; cases e1; cases e2; subst e3
    rw [h3] at hx; cases hx
  | rb t l =>
    obtain ⟨b, cap, vs, h1, _, _, _, h3⟩ := hc
    obtain ⟨L, a, e1, e2, e3⟩ := ho
    rw [h1] at e1; cases e1; cases e2; subst e3
    rw [h3] at hx; cases hx
  | obj k =>
    obtain ⟨b, cap, o, h1, h2, h3⟩ := hc
    obtain ⟨L, a, e1, e2, e3⟩ := ho
    rw [h1] at e1; cases e1; cases e2; subst e3
    rw [h3] at hx; cases hx
    exact ObjK.is_odd h2 _ rfl
  | row t n sz c =>
    obtain ⟨L, vs, h1, _, h3⟩ := hc
    obtain ⟨L', a, e1, e2, e3⟩ := ho
    rw [h1] at e1; cases e1
    rcases h3.2 with ⟨h4, _⟩ | ⟨g', cap, cur, h4, _, h5, _⟩
    · injection h4 with h4; rw [h4] at e2; cases e2
    · injection h4 with h4
      rw [h4] at e2; cases e2; subst e3
      rw [h5] at hx; cases hx
  | ro n sz c =>
    obtain ⟨L, vs, h1, h2, h3, _, _, h4⟩ := hc
    obtain ⟨h0, L', a, e1, e2, e3⟩ := ho
    rw [h1] at e1; cases e1
    obtain ⟨ad, e4, h5⟩ := h4 h0
    rw [e4] at e2; cases e2
    have : 0 < vs.length := by omega
    have h6 := h5 0 vs[0] (by simp [this])
    simp only [World.cell?, addr_block', e3, hx] at h6
    cases h6
  | fam o t sz n len c =>
    obtain ⟨L, h1, h2⟩ := hc
    obtain ⟨L', e1, e2⟩ := ho
    rw [h1] at e1; cases e1
    exact (h2.seen e2).2 _ hx

theorem Chunk.holds_ext {ρ : Env} {i : Nat} {c : Chunk} {w w' : World} (hc : c.holds ρ i w) (hk : ∀ g, c.occ ρ i g → w'.heap[g]? = w.heap[g]?) : c.holds ρ i w' := by
  cases c with
  | blk t l =>
    obtain ⟨b, cap, vs, h1, h2, h3⟩ := hc
    exact ⟨b, cap, vs, h1, h2, (hk b ⟨_, _, h1, rfl, rfl⟩).trans h3⟩
  | rb t l =>
    obtain ⟨b, cap, vs, h1, h2, u, fr, h3⟩ := hc
    exact ⟨b, cap, vs, h1, h2, u, fr, (hk b ⟨_, _, h1, rfl, rfl⟩).trans h3⟩
  | obj k =>
    obtain ⟨b, cap, o, h1, h2, h3⟩ := hc
    exact ⟨b, cap, o, h1, h2, (hk b ⟨_, _, h1, rfl, rfl⟩).trans h3⟩
  | row t n sz c =>
    obtain ⟨L, vs, h1, h2, h3, h4⟩ := hc
    refine ⟨L, vs, h1, h2, h3, ?_⟩
    rcases h4 with h4 | ⟨g, cap, cur, e1, e2, e3, rest⟩
    · exact .inl h4
    · injection e1 with e1 e4 e5
      exact .inr ⟨g, cap, cur, by rw [e1, e5], e2, (hk g ⟨_, _, h1, e1, rfl⟩).trans e3, rest⟩
  | ro n sz c =>
    obtain ⟨L, vs, h1, h2, h3, h4, h5, h6⟩ := hc
    refine ⟨L, vs, h1, h2, h3, h4, h5, fun h0 => ?_⟩
    obtain ⟨ad, e4, h7⟩ := h6 h0
    refine ⟨ad, e4, fun j u hu => ?_⟩
    rw [World.cell?_of_block (w := w)]
    · exact h7 j u hu
    · rw [addr_block']; exact hk _ ⟨h0, _, _, h1, e4, rfl⟩
  | fam o t sz n len c =>
    obtain ⟨L, h1, h2⟩ := hc
    exact ⟨L, h1, h2.ext fun g hg => hk g ⟨L, h1, hg⟩⟩

theorem Chunk.holds_mono {ρ ρ' : Env} (h : Env.le ρ ρ') {i : Nat} {c : Chunk} {w : World} (hc : c.holds ρ i w) : c.holds ρ' i w := by
  cases c with
  | blk t l => obtain ⟨b, cap, vs, h1, h2, h3⟩ := hc; exact ⟨b, cap, vs, h _ _ h1, AV.denL_mono h _ _ h2, h3⟩
  | rb t l => obtain ⟨b, cap, vs, h1, h2, h3⟩ := hc; exact ⟨b, cap, vs, h _ _ h1, AV.denL_mono h _ _ h2, h3⟩
  | row t n sz c => obtain ⟨L, vs, h1, h2, h3⟩ := hc; exact ⟨L, vs, h _ _ h1, AV.denL_mono h _ _ h2, h3⟩
  | obj k => obtain ⟨b, cap, o, h1, h2, h3⟩ := hc; exact ⟨b, cap, o, h _ _ h1, ObjK.is_mono h h2, h3⟩
  | ro n sz c => obtain ⟨L, vs, h1, h2, h3⟩ := hc; exact ⟨L, vs, h _ _ h1, AV.denL_mono h _ _ h2, h3⟩
  | fam o t sz n len c => obtain ⟨L, h1, h2⟩ := hc; exact ⟨L, h _ _ h1, h2⟩

/-- What the blocks of s, and new ones, let stand. -/
structure Touch (s : Nat → Prop) (w w' : World) : Prop where
  os : w'.os = w.os
  tape : w'.tape = w.tape
  output : w'.output = w.output
  size : w.heap.size ≤ w'.heap.size
  block : ∀ k, k < w.heap.size → ¬ s k → w'.heap[k]? = w.heap[k]?
theorem Touch.refl (s : Nat → Prop) (w : World) : Touch s w w := ⟨rfl, rfl, rfl, Nat.le_refl _, fun _ _ _ => rfl⟩
theorem Touch.trans {s s' : Nat → Prop} {a b c : World} (h : Touch s a b) (k : Touch s' b c) (hs : ∀ g, s' g → s g ∨ a.heap.size ≤ g) : Touch s a c :=
  ⟨k.os.trans h.os, k.tape.trans h.tape, k.output.trans h.output, Nat.le_trans h.size k.size, fun i hi hn => (k.block i (Nat.lt_of_lt_of_le hi h.size) (fun e => (hs i e).elim hn (by omega))).trans (h.block i hi hn)⟩
theorem Touch.setCell {w : World} {a : Addr} (u : Value) : Touch (· = a.block) w (w.setCell a u) :=
  ⟨rfl, rfl, rfl, by simp [World.setCell], fun k _ hs => Below.heap_setCell _ _ _ _ hs⟩
theorem Touch.alloc (w : World) (o : Obj) : Touch (fun _ => False) w (w.alloc o) := ⟨rfl, rfl, rfl, by simp, fun k hk _ => Below.heap_alloc _ _ _ hk⟩
theorem Touch.drew (w : World) : Touch (fun _ => False) w { w with drawn := w.drawn + 1 } := ⟨rfl, rfl, rfl, Nat.le_refl _, fun _ _ _ => rfl⟩
theorem Touch.grown {w w' : World} {row : Option Nat} (h : w.grownBy w' row) : Touch (fun g => row = some g) w w' :=
  ⟨h.os, h.tape, h.output, h.size, fun k hk hn => h.block k hk (fun e => hn e.symm)⟩
theorem Touch.below {s : Nat → Prop} {w w' : World} (h : Touch s w w') (hs : ∀ g, g < w.heap.size → ¬ s g) : Below w.heap.size w w' := ⟨h.os, h.tape, h.output, h.size, fun k hk => h.block k hk (hs k hk)⟩
theorem Touch.of_below {s : Nat → Prop} {w w' : World} (h : Below w.heap.size w w') : Touch s w w' := ⟨h.os, h.tape, h.output, h.size, fun k hk _ => h.block k hk⟩
theorem Touch.mono {s s' : Nat → Prop} {w w' : World} (h : Touch s w w') (hs : ∀ g, g < w.heap.size → s g → s' g) : Touch s' w w' := ⟨h.os, h.tape, h.output, h.size, fun k hk hn => h.block k hk (fun e => hn (hs k hk e))⟩

abbrev HMap := Nat → Option Chunk
abbrev TMap := Nat → Option AV

/-- A heap: its chunks hold, and what is owned is owned alone. -/
structure Heap (ρ : Env) (H : HMap) (w : World) : Prop where
  holds : ∀ i c, H i = some c → c.holds ρ i w
  apart : ∀ i c, H i = some c → c.own = true → ∀ j d, H j = some d → j ≠ i → ∀ g, c.occ ρ i g → ¬ d.occ ρ j g

/-- The blocks of what is owned. -/
def Owned (ρ : Env) (H : HMap) (g : Nat) : Prop := ∃ i c, H i = some c ∧ c.own = true ∧ c.occ ρ i g
/-- .. of all. -/
def Seen (ρ : Env) (H : HMap) (g : Nat) : Prop := ∃ i c, H i = some c ∧ c.occ ρ i g

theorem Heap.sub {ρ : Env} {H H' : HMap} {w : World} (h : Heap ρ H w) (hs : ∀ i c, H' i = some c → H i = some c) : Heap ρ H' w :=
  ⟨fun i c e => h.holds i c (hs _ _ e), fun i c e ho j d e' hne => h.apart i c (hs _ _ e) ho j d (hs _ _ e') hne⟩
theorem Heap.mono {ρ ρ' : Env} (hle : Env.le ρ ρ') {H : HMap} {w : World} (h : Heap ρ H w) : Heap ρ' H w :=
  ⟨fun i c e => Chunk.holds_mono hle (h.holds i c e), fun i c e ho j d e' hne g hg hg' =>
    h.apart i c e ho j d e' hne g (Chunk.occ_mono hle (h.holds i c e) hg) (Chunk.occ_mono hle (h.holds j d e') hg')⟩
theorem Heap.lt {ρ : Env} {H : HMap} {w : World} (h : Heap ρ H w) {g : Nat} (hg : Seen ρ H g) : g < w.heap.size := by
  obtain ⟨i, c, e, ho⟩ := hg
  exact Chunk.holds_lt (h.holds i c e) ho
theorem Heap.ext {ρ : Env} {H : HMap} {w w' : World} (h : Heap ρ H w) (hk : ∀ g, Seen ρ H g → w'.heap[g]? = w.heap[g]?) : Heap ρ H w' :=
  ⟨fun i c e => Chunk.holds_ext (h.holds i c e) fun g hg => hk g ⟨i, c, e, hg⟩, h.apart⟩
theorem Heap.below {ρ : Env} {H : HMap} {w w' : World} (h : Heap ρ H w) (hb : Below w.heap.size w w') : Heap ρ H w' := h.ext fun g hg => hb.block g (h.lt hg)

/-- What is known throughout a call: the world at its start, where its arguments lie, what of them it may write. -/
structure Frm where
  P : Program
  nt : Nat
  m : Nat
  ρ0 : Env
  w0 : World
  s : Nat → Prop
  rd : Option Nat := none

/-- The mark that a range over a function leaves among the deferred calls. -/
def mark (r : Nat) : Deferred := { target := .collected r, args := #[] }
def Marks (n : Nat) (ds : List Deferred) (w : World) : Prop := ∃ rs : List Nat, ds = rs.map mark ∧ rs.Nodup ∧ ∀ r ∈ rs, n ≤ r ∧ w.heap[r]? = some (.deferred (some []))
theorem Marks.nil (n : Nat) (w : World) : Marks n [] w := ⟨[], rfl, List.nodup_nil, fun _ h => by cases h⟩
/-- Marks' blocks stay as they are. -/
def KeepM (w w' : World) : Prop := ∀ r : Nat, w.heap[r]? = some (Obj.deferred (some [])) → w'.heap[r]? = w.heap[r]?
theorem Marks.keep {n : Nat} {ds : List Deferred} {w w' : World} (h : Marks n ds w) (hk : KeepM w w') : Marks n ds w' :=
  let ⟨rs, h1, h2, h3⟩ := h; ⟨rs, h1, h2, fun r hr => ⟨(h3 r hr).1, (hk r (h3 r hr).2).trans (h3 r hr).2⟩⟩
theorem KeepM.below {w w' : World} (h : Below w.heap.size w w') : KeepM w w' := fun r hr => h.block r (Array.getElem?_eq_some_iff.1 hr).1
theorem KeepM.touch {s : Nat → Prop} {w w' : World} (h : Touch s w w') (hs : ∀ g, s g → ∀ x : Option (List Deferred), w.heap[g]? ≠ some (Obj.deferred x)) : KeepM w w' :=
  fun r hr => h.block r (Array.getElem?_eq_some_iff.1 hr).1 (fun h => hs r h _ hr)

/-- A state: temporaries, chunks, the numbers that are in use. -/
structure Interp (F : Frm) (U : Nat → Prop) (T : TMap) (H : HMap) (ρ : Env) (a : Act) (w : World) : Prop where
  size : a.tmps.size = F.nt
  defers : Marks F.w0.heap.size a.defers w
  tm : ∀ k av, T k = some av → ∃ v, av.den ρ = some v ∧ a.tmps[k]? = some v
  heap : Heap ρ H w
  dom : ∀ i L, ρ i = some L → U i
  keep : ∀ i, i < F.m → ρ i = F.ρ0 i
  fresh : ∀ g, Owned ρ H g → F.w0.heap.size ≤ g ∨ F.s g
  touch : Touch F.s F.w0 w

theorem Interp.sub {F : Frm} {U U' : Nat → Prop} {T T' : TMap} {H H' : HMap} {ρ : Env} {a : Act} {w : World} (h : Interp F U T H ρ a w)
    (hU : ∀ i L, ρ i = some L → U i → U' i) (hT : ∀ k v, T' k = some v → T k = some v) (hH : ∀ i c, H' i = some c → H i = some c) : Interp F U' T' H' ρ a w :=
  ⟨h.size, h.defers, fun k av e => h.tm k av (hT k av e), h.heap.sub hH, fun i L e => hU i L e (h.dom i L e), h.keep,
    fun g ⟨i, c, e, ho, hg⟩ => h.fresh g ⟨i, c, hH i c e, ho, hg⟩, h.touch⟩

def upd {α : Type} (f : Nat → Option α) (k : Nat) (v : α) : Nat → Option α := fun j => if j = k then some v else f j
def del {α : Type} (f : Nat → Option α) (k : Nat) : Nat → Option α := fun j => if j = k then none else f j
theorem upd_same {α : Type} (f : Nat → Option α) (k : Nat) (v : α) : upd f k v k = some v := by simp [upd]
theorem upd_other {α : Type} (f : Nat → Option α) {k j : Nat} (v : α) (h : j ≠ k) : upd f k v j = f j := by simp [upd, h]

theorem put_at {a : Act} {d : Nat} (v : Value) (hd : d < a.tmps.size) : (a.put (some d) v).tmps[d]? = some v := by simp [Act.put, hd]
theorem put_other {a : Act} {d k : Nat} (v : Value) (h : k ≠ d) : (a.put (some d) v).tmps[k]? = a.tmps[k]? := by
  simp [Act.put, Array.getElem?_setIfInBounds_ne (Ne.symm h)]
theorem put_size {a : Act} (d : Option Tmp) (v : Value) : (a.put d v).tmps.size = a.tmps.size := by cases d <;> simp [Act.put]
theorem put_defers {a : Act} (d : Option Tmp) (v : Value) : (a.put d v).defers = a.defers := by cases d <;> rfl

def updO (T : TMap) (d : Option Tmp) (v : AV) : TMap := match d with | some k => upd T k v | none => T

/-- A value put into a slot. -/
theorem Interp.put {F : Frm} {U : Nat → Prop} {T : TMap} {H : HMap} {ρ : Env} {a : Act} {w : World} (h : Interp F U T H ρ a w) (d : Option Tmp) {av : AV} {v : Value}
    (hd : ∀ k, d = some k → k < F.nt) (hv : av.den ρ = some v) : Interp F U (updO T d av) H ρ (a.put d v) w := by
  refine ⟨by rw [put_size]; exact h.size, by rw [put_defers]; exact h.defers, fun k u hk => ?_, h.heap, h.dom, h.keep, h.fresh, h.touch⟩
  cases d with
  | none => exact h.tm k u hk
  | some d =>
    by_cases e : k = d
    · subst e
      simp only [updO, upd_same, Option.some.injEq] at hk
      subst hk
      exact ⟨v, hv, put_at _ (by rw [h.size]; exact hd _ rfl)⟩
    · simp only [updO, upd_other _ _ e] at hk
      rw [put_other _ e]
      exact h.tm k u hk

/-- A step of the world that leaves all seen blocks, and extends the numbers: with new chunks. -/
theorem Interp.step {F : Frm} {U U' : Nat → Prop} {T : TMap} {H H' : HMap} {ρ ρ' : Env} {a : Act} {w w' : World} (h : Interp F U T H ρ a w)
    (hle : Env.le ρ ρ') (hkeep : ∀ i, i < F.m → ρ' i = ρ i) (hdom : ∀ i L, ρ' i = some L → U' i) (hH : Heap ρ' H' w') (hfr : ∀ g, Owned ρ' H' g → F.w0.heap.size ≤ g ∨ F.s g)
    (ht : Touch F.s F.w0 w') (hkm : KeepM w w') : Interp F U' T H' ρ' a w' :=
  ⟨h.size, h.defers.keep hkm, fun k av e => let ⟨v, h1, h2⟩ := h.tm k av e; ⟨v, AV.den_mono hle _ _ h1, h2⟩, hH, hdom, fun i hi => (hkeep i hi).trans (h.keep i hi), hfr, ht⟩

end Go.Sym

namespace Go.Sym
open Go.RowKit

structure TyI where
  desc : TypeDesc
  size : Nat
  bytes : Nat
  zero : Value

structure Cfg where
  nt : Nat
  tys : List (Nat × TyI)
  globs : List (Nat × Nat)


def nth {α : Type} : List α → Nat → Option α
  | [], _ => none
  | a :: _, 0 => some a
  | _ :: l, n + 1 => nth l n
theorem nth_eq {α : Type} : ∀ (l : List α) (n : Nat), nth l n = l[n]?
  | [], n => by simp [nth]
  | a :: l, 0 => by simp [nth]
  | a :: l, n + 1 => by simp [nth, nth_eq l n]

/-- A condition of a run, with a test that shows it. -/
structure Cd where
  p : Prop
  b : Bool
  h : b = true → p
abbrev cd (p : Prop) [i : Decidable p] : Cd := ⟨p, @decide p i, fun h => of_decide_eq_true h⟩
abbrev cp (p : Prop) : Cd := ⟨p, false, fun h => by cases h⟩
theorem cd_p (p : Prop) [Decidable p] : (cd p).p = p := rfl
theorem cp_p (p : Prop) : (cp p).p = p := rfl

/-- All of these hold. -/
def All : List Cd → Prop
  | [] => True
  | c :: l => c.p ∧ All l
/-- .. by their tests. -/
def allB : List Cd → Bool
  | [] => true
  | c :: l => match c.b with | true => allB l | false => false
theorem allB_all : ∀ {l : List Cd}, allB l = true → All l
  | [], _ => trivial
  | c :: l, h => by
    simp only [allB] at h
    split at h
    · rename_i hb; exact ⟨c.h hb, allB_all h⟩
    · cases h

/-- The table of types is that of the program. -/
def TValid (P : Program) (l : List (Nat × TyI)) : Prop := ∀ t i, (t, i) ∈ l → P.underlying t = some i.desc ∧ ∃ x, P.info? t = some x ∧ x.size = i.size ∧ x.bytes = i.bytes ∧ x.zero = some i.zero

theorem tvalid_cons {P : Program} {t : Nat} {i : TyI} {l : List (Nat × TyI)} (h1 : P.underlying t = some i.desc) (h2 : (P.info? t).map (fun x => (x.zero, x.size, x.bytes)) = some (some i.zero, i.size, i.bytes)) (h : TValid P l) : TValid P ((t, i) :: l) := by
  intro u j hj
  rcases List.mem_cons.1 hj with e | hj
  · injection e with e1 e2
    subst e1 e2
    refine ⟨h1, ?_⟩
    cases hx : P.info? u with
    | none => rw [hx] at h2; cases h2
    | some x =>
      rw [hx] at h2
      simp only [Option.map_some, Option.some.injEq, Prod.mk.injEq] at h2
      exact ⟨x, rfl, h2.2.1, h2.2.2, h2.1⟩
  · exact h u j hj
theorem tvalid_nil (P : Program) : TValid P [] := fun _ _ h => by cases h

section
variable {P : Program} {w : World}
theorem tv_under {l : List (Nat × TyI)} {t : Nat} {i : TyI} (h : TValid P l) (e : look t l = some i) : (underlying t).run P w = .ok i.desc w := run_underlying (h t i (look_mem e)).1 w
theorem tv_size {l : List (Nat × TyI)} {t : Nat} {i : TyI} (h : TValid P l) (e : look t l = some i) : (sizeOf t).run P w = .ok i.size w := by
  obtain ⟨_, x, h1, h2, _⟩ := h t i (look_mem e)
  simp [sizeOf, typeInfo, h1, h2]
theorem tv_zero {l : List (Nat × TyI)} {t : Nat} {i : TyI} (h : TValid P l) (e : look t l = some i) : (zeroValue t).run P w = .ok i.zero w := by
  obtain ⟨_, x, h1, _, _, h2⟩ := h t i (look_mem e)
  simp [zeroValue, typeInfo, h1, h2]
end

def isAggD : TypeDesc → Bool
  | .struct _ | .array _ _ => true
  | _ => false
theorem tv_isAgg {P : Program} {w : World} {l : List (Nat × TyI)} {t : Nat} {i : TyI} (h : TValid P l) (e : look t l = some i) : (isAgg t).run P w = .ok (isAggD i.desc) w := by
  have := tv_under (w := w) h e
  simp only [isAgg, Sem.run_bind, this, Result.andThen_ok]
  cases i.desc <;> rfl

def cellsOf : AV → Option (List AV)
  | .agg l => some l
  | .lit (.agg cs) => some (cs.toList.map AV.lit)
  | .cnd _ _ => none
  | a => some [a]
theorem cellsOf_den {ρ : Env} {a : AV} {l : List AV} {v : Value} (hl : cellsOf a = some l) (h : a.den ρ = some v) : AV.denL ρ l = some v.cells.toList := by
  have one : ∀ {b : AV}, some [b] = some l → b.den ρ = some v → v.cells = #[v] → AV.denL ρ l = some v.cells.toList := by
    intro b hb' hb hv
    cases hb'
    simp only [AV.denL, hb, hv]; rfl
  cases a with
  | lit x =>
    simp only [AV.den, Option.some.injEq] at h
    subst h
    cases x with
    | agg cs => cases hl; exact denL_lits ρ cs.toList
    | _ => exact one hl (by simp [AV.den]) rfl
  | agg l =>
    simp only [AV.den, Option.map_eq_some_iff] at h
    obtain ⟨vs, h1, rfl⟩ := h
    cases hl
    simpa [cellsOf, Value.cells] using h1
  | ptr i e sz j =>
    refine one hl h ?_
    simp only [AV.den, Option.bind_eq_some_iff, Option.map_eq_some_iff] at h
    obtain ⟨L, h1, x, h2, rfl⟩ := h
    rfl
  | sl i n =>
    refine one hl h ?_
    simp only [AV.den, Option.map_eq_some_iff] at h
    obtain ⟨L, h1, rfl⟩ := h
    rfl
  | tup l =>
    refine one hl h ?_
    simp only [AV.den, Option.map_eq_some_iff] at h
    obtain ⟨vs, h1, rfl⟩ := h
    rfl
  | fn f a b =>
    refine one hl h ?_
    simp only [AV.den, Option.bind_eq_some_iff, Option.map_eq_some_iff] at h
    obtain ⟨x, h1, y, h2, rfl⟩ := h
    rfl
  | yld i =>
    refine one hl h ?_
    simp only [AV.den, Option.bind_eq_some_iff, Option.map_eq_some_iff] at h
    obtain ⟨L, h1, x, h2, rfl⟩ := h
    rfl
  | mp i =>
    refine one hl h ?_
    simp only [AV.den, Option.bind_eq_some_iff, Option.map_eq_some_iff] at h
    obtain ⟨L, h1, x, h2, rfl⟩ := h
    rfl
  | tb i x =>
    refine one hl h ?_
    simp only [AV.den, Option.bind_eq_some_iff] at h
    obtain ⟨L, h1, h2⟩ := h
    rcases Tb.den_one h2 with ⟨a, n, c, rfl⟩ | ⟨a, rfl⟩ <;> rfl
  | cnd b x => cases hl

/-- What a run knows: temporaries, chunks, where the globals lie. -/
structure Know (cfg : Cfg) (P : Program) (T : TMap) (H : HMap) (ρ : Env) (a : Act) (w : World) : Prop where
  tv : TValid P cfg.tys
  gl : ∀ g i, (g, i) ∈ cfg.globs → ∃ c, ρ i = some ⟨some ⟨g, 0, none⟩, c⟩
  tm : ∀ k av, T k = some av → ∃ v, av.den ρ = some v ∧ a.tmps[k]? = some v
  heap : Heap ρ H w

/-- An operand's value; a value that is there on a condition is there. -/
def ev (cfg : Cfg) (T : List (Nat × AV)) (acc : List Cd) : Operand → Option (AV × List Cd)
  | .tmp t => match look t T with
    | some (.cnd b x) => some (x, cd (b = true) :: acc)
    | some a => some (a, acc)
    | none => none
  | .const v => some (.lit v, acc)
  | .func f => some (.fn f [] [], acc)
  | .global g => match look g cfg.globs with
    | some i => some (.ptr i 0 0 0, acc)
    | none => none

section
variable {cfg : Cfg} {P : Program} {T : List (Nat × AV)} {H : List (Nat × Chunk)} {ρ : Env} {a : Act} {w : World}

theorem eval_tmp {k : Nat} {v : Value} (h : a.tmps[k]? = some v) : a.eval (.tmp k) = v := by
  show a.tmps.getD k undef = v
  rw [Array.getD_eq_getD_getElem?, h]; rfl

theorem ev_sound (hk : Know cfg P (fun k => look k T) (fun k => look k H) ρ a w) {acc acc' : List Cd} {x : Operand} {r : AV} (h : ev cfg T acc x = some (r, acc')) (hc : All acc') :
    All acc ∧ ∃ v, r.den ρ = some v ∧ a.eval x = v := by
  cases x with
  | tmp t =>
    simp only [ev] at h
    cases ht : look t T with
    | none => rw [ht] at h; cases h
    | some av =>
      obtain ⟨v, h1, h2⟩ := hk.tm t av ht
      rw [ht] at h
      cases av with
      | cnd b x =>
        cases h
        obtain ⟨rfl, h3⟩ := hc
        exact ⟨h3, v, by simpa [AV.den] using h1, eval_tmp h2⟩
      | _ => cases h; exact ⟨hc, v, h1, eval_tmp h2⟩
  | const v => cases h; exact ⟨hc, v, by simp [AV.den], rfl⟩
  | func f => cases h; exact ⟨hc, _, by simp [AV.den, AV.denL]; rfl, rfl⟩
  | global g =>
    simp only [ev] at h
    cases hg : look g cfg.globs with
    | none => rw [hg] at h; cases h
    | some i =>
      rw [hg] at h
      cases h
      obtain ⟨c, e⟩ := hk.gl g i (look_mem hg)
      exact ⟨hc, _, by simp [AV.den, e, Addr.add]; rfl, rfl⟩
end

/-- Within the range of a kind. -/
def InK : IntKind → Int → Prop
  | .i8, z => -128 ≤ z ∧ z ≤ 127
  | .i16, z => -32768 ≤ z ∧ z ≤ 32767
  | .i32, z => -2147483648 ≤ z ∧ z ≤ 2147483647
  | .i64, z => -9223372036854775808 ≤ z ∧ z ≤ 9223372036854775807
  | .u8, z => 0 ≤ z ∧ z ≤ 255
  | .u16, z => 0 ≤ z ∧ z ≤ 65535
  | .u32, z => 0 ≤ z ∧ z ≤ 4294967295
  | .u64, z => 0 ≤ z ∧ z ≤ 18446744073709551615
instance (k : IntKind) (z : Int) : Decidable (InK k z) := by cases k <;> exact inferInstanceAs (Decidable (_ ∧ _))
theorem InK.wrap {k : IntKind} {z : Int} (h : InK k z) : k.wrap z = z := by
  cases k <;> simp only [InK] at h <;> simp [IntKind.wrap, IntKind.bits, IntKind.signed] <;> omega

def kEq (k k' : IntKind) : Bool := match k, k' with
  | .i8, .i8 | .i16, .i16 | .i32, .i32 | .i64, .i64 | .u8, .u8 | .u16, .u16 | .u32, .u32 | .u64, .u64 => true
  | _, _ => false
theorem kEq_eq {k k' : IntKind} (h : kEq k k' = true) : k = k' := by cases k <;> cases k' <;> first | rfl | cases h

def intBin (op : BinOp) (k : IntKind) (a b : Int) (acc : List Cd) : Option (AV × List Cd) :=
  match op with
  | .add => some (.lit (.int k (a + b)), cd (InK k (a + b)) :: acc)
  | .sub => some (.lit (.int k (a - b)), cd (InK k (a - b)) :: acc)
  | .mul => some (.lit (.int k (a * b)), cd (InK k (a * b)) :: acc)
  | .quo => some (.lit (.int k (Int.tdiv a b)), cd (b ≠ 0) :: cd (InK k (Int.tdiv a b)) :: acc)
  | .rem => some (.lit (.int k (Int.tmod a b)), cd (b ≠ 0) :: acc)
  | .eql => some (.lit (.bool (decide (a = b))), acc)
  | .neq => some (.lit (.bool (decide (a ≠ b))), acc)
  | .lss => some (.lit (.bool (decide (a < b))), acc)
  | .leq => some (.lit (.bool (decide (a ≤ b))), acc)
  | .gtr => some (.lit (.bool (decide (b < a))), acc)
  | .geq => some (.lit (.bool (decide (b ≤ a))), acc)
  | _ => none
theorem intBin_sound {P : Program} {w : World} {op : BinOp} {k : IntKind} {a b : Int} {acc acc' : List Cd} {r : AV} (xt : TypeId) (h : intBin op k a b acc = some (r, acc')) (hc : All acc') :
    All acc ∧ ∃ v, r = .lit v ∧ (binOp op xt (.int k a) (.int k b)).run P w = .ok v w := by
  cases op <;> simp only [intBin] at h <;> first | cases h | skip
  all_goals first
    | (refine ⟨hc, _, rfl, ?_⟩; simp [binOp, Op.intCmp]; done)
    | (refine ⟨hc, _, rfl, ?_⟩; simp [binOp, Op.intCmp, bne, BEq.beq]; done)
    | (obtain ⟨h1, h2⟩ := hc; refine ⟨h2, _, rfl, ?_⟩; simp [binOp, Op.intArith, InK.wrap h1]; done)
    | (obtain ⟨h1, h2, h3⟩ := hc; have h1 : b ≠ 0 := h1; refine ⟨h3, _, rfl, ?_⟩; simp [binOp, Op.intDiv, h1, InK.wrap h2]; done)
    | (obtain ⟨h1, h2⟩ := hc; have h1 : b ≠ 0 := h1; refine ⟨h2, _, rfl, ?_⟩; simp [binOp, Op.intDiv, h1]; done)

def strBin (op : BinOp) (a b : ByteArray) (acc : List Cd) : Option (AV × List Cd) :=
  match op with
  | .add => some (.lit (.string (a ++ b)), cd (a.size + b.size ≤ 9223372036854775807) :: acc)
  | .eql => some (.lit (.bool (decide (a = b))), acc)
  | .neq => some (.lit (.bool (decide (a ≠ b))), acc)
  | _ => none
theorem bytes_toList_inj {a b : ByteArray} : a.toList = b.toList ↔ a = b := by
  exact ⟨fun h => ByteArray.ext (Array.ext' (by simpa [ByteArray.toList_eq] using h)), fun h => by rw [h]⟩
theorem strBin_sound {P : Program} {w : World} {op : BinOp} {a b : ByteArray} {acc acc' : List Cd} {r : AV} (xt : TypeId) (h : strBin op a b acc = some (r, acc')) (hc : All acc') :
    All acc ∧ ∃ v, r = .lit v ∧ (binOp op xt (.string a) (.string b)).run P w = .ok v w := by
  cases op <;> simp only [strBin] at h <;> first | cases h | skip
  · obtain ⟨h1, h2⟩ := hc
    refine ⟨h2, _, rfl, ?_⟩
    have h3 : IntKind.i64.max = 9223372036854775807 := by decide
    have : ¬ (((a.size + b.size : Nat) : Int) > IntKind.i64.max) := by omega
    simp only [binOp, Op.stringOp, if_neg this]; rfl
  · refine ⟨hc, _, rfl, ?_⟩
    have : (a.toList == b.toList) = decide (a = b) := by
      rw [Bool.eq_iff_iff]; simp [bytes_toList_inj]
    simp [binOp, Op.stringOp, this]
  · refine ⟨hc, _, rfl, ?_⟩
    have : (a.toList == b.toList) = decide (a = b) := by
      rw [Bool.eq_iff_iff]; simp [bytes_toList_inj]
    simp [binOp, Op.stringOp, this]

/-! Loads. -/
def cellA (c : Cont) (e sz j : Nat) (acc : List Cd) : Option (AV × List Cd) :=
  match c with
  | .exp l => match nth l (e * sz + j) with | some a => some (a, acc) | none => none
  | .ints k l => match Nat.beq sz 1 && Nat.beq j 0 with | true => some (.lit (.int k (l.getD e 0)), cd (e < l.length) :: acc) | false => none
  | .bools l => match Nat.beq sz 1 && Nat.beq j 0 with | true => some (.lit (.bool (l.getD e false)), cd (e < l.length) :: acc) | false => none
  | .gen n sz' get => match Nat.beq sz sz' && Nat.blt j sz with
    | true => match nth (get e) j with | some v => some (.lit v, cd (e < n) :: acc) | none => none
    | false => none
  | .app _ _ => none
  | .tbl j' n len ex => match Nat.beq sz 1 && Nat.beq j 0, ex with
    | true, none => some (.tb j' (.row e (len e)), cd (e < n) :: acc)
    | _, _ => none
  | .jbs j' n sz' hd len => match Nat.beq sz sz' && Nat.blt j sz with
    | true => match Nat.beq (Nat.succ j) sz with
      | true => some (.tb j' (.row e (len e)), cd (e < n) :: acc)
      | false => match nth (hd e) j with | some v => some (.lit v, cd (e < n) :: acc) | none => none
    | false => none
theorem jbs_at {j n sz e f : Nat} {hd : Nat → List Value} {len : Nat → Nat} (hf : f < sz) (he : e < n) : (Cont.jbs j n sz hd len).cells[e * sz + f]? = some (if f + 1 = sz then .tb j (.row e (len e)) else .lit ((hd e).getD f undef)) := by
  have h1 : e * sz + f < n * sz := by
    have := Nat.mul_le_mul_right sz (show e + 1 ≤ n by omega)
    rw [Nat.add_mul] at this; omega
  have h2 : (e * sz + f) / sz = e := by rw [Nat.mul_comm, Nat.mul_add_div (by omega), Nat.div_eq_of_lt hf]; omega
  have h3 : (e * sz + f) % sz = f := by rw [Nat.mul_comm, Nat.mul_add_mod, Nat.mod_eq_of_lt hf]
  simp only [Cont.cells, List.getElem?_map, List.getElem?_range h1, Option.map_some, jbsC, h2, h3]

theorem denL_at' {ρ : Env} {l : List AV} {vs : List Value} {k : Nat} {a : AV} (h : AV.denL ρ l = some vs) (ha : nth l k = some a) : ∃ v, a.den ρ = some v ∧ vs[k]? = some v := denL_at h (by rw [← nth_eq]; exact ha)

theorem gen_at {n sz e j : Nat} {get : Nat → List Value} {v : Value} (hj : j < sz) (he : e < n) (hv : nth (get e) j = some v) : (Cont.gen n sz get).cells[e * sz + j]? = some (.lit v) := by
  have h1 : e * sz + j < n * sz := by
    have := Nat.mul_le_mul_right sz (show e + 1 ≤ n by omega)
    rw [Nat.add_mul] at this; omega
  have h2 : (e * sz + j) / sz = e := by rw [Nat.mul_comm, Nat.mul_add_div (by omega), Nat.div_eq_of_lt hj]; omega
  have h3 : (e * sz + j) % sz = j := by rw [Nat.mul_comm, Nat.mul_add_mod, Nat.mod_eq_of_lt hj]
  rw [nth_eq] at hv
  simp [Cont.cells, h1, h2, h3, List.getD, hv]

theorem cellA_sound {ρ : Env} {c : Cont} {e sz j : Nat} {acc acc' : List Cd} {r : AV} {vs : List Value} (h : cellA c e sz j acc = some (r, acc')) (hc : All acc') (hd : AV.denL ρ c.cells = some vs) :
    All acc ∧ ∃ v, r.den ρ = some v ∧ vs[e * sz + j]? = some v := by
  cases c with
  | exp l =>
    simp only [cellA] at h
    split at h
    · rename_i a ha
      cases h
      exact ⟨hc, denL_at' hd ha⟩
    · cases h
  | ints k l =>
    simp only [cellA] at h
    split at h
    · rename_i h1
      simp only [Bool.and_eq_true] at h1
      cases h
      obtain ⟨h3, h4⟩ := hc
      have h3 : e < l.length := h3
      have : sz = 1 := Nat.eq_of_beq_eq_true h1.1
      subst this
      have : j = 0 := Nat.eq_of_beq_eq_true h1.2
      subst this
      refine ⟨h4, ?_⟩
      have : (Cont.ints k l).cells[e * 1 + 0]? = some (.lit (.int k (l.getD e 0))) := by simp [Cont.cells, h3, List.getD]
      exact denL_at hd this
    · cases h
  | bools l =>
    simp only [cellA] at h
    split at h
    · rename_i h1
      simp only [Bool.and_eq_true] at h1
      cases h
      obtain ⟨h3, h4⟩ := hc
      have h3 : e < l.length := h3
      have : sz = 1 := Nat.eq_of_beq_eq_true h1.1
      subst this
      have : j = 0 := Nat.eq_of_beq_eq_true h1.2
      subst this
      refine ⟨h4, ?_⟩
      have : (Cont.bools l).cells[e * 1 + 0]? = some (.lit (.bool (l.getD e false))) := by simp [Cont.cells, h3, List.getD]
      exact denL_at hd this
    · cases h
  | gen n sz' get =>
    simp only [cellA] at h
    split at h
    · rename_i h1
      simp only [Bool.and_eq_true] at h1
      have : sz = sz' := Nat.eq_of_beq_eq_true h1.1
      subst this
      have hj : j < sz := Nat.le_of_ble_eq_true h1.2
      split at h
      · rename_i v hv
        cases h
        obtain ⟨h3, h4⟩ := hc
        exact ⟨h4, denL_at hd (gen_at hj h3 hv)⟩
      · cases h
    · cases h
  | app c l => cases h
  | tbl j' n len ex =>
    simp only [cellA] at h
    split at h
    · rename_i h1
      simp only [Bool.and_eq_true] at h1
      cases h
      obtain ⟨h3, h4⟩ := hc
      have h3 : e < n := h3
      have : sz = 1 := Nat.eq_of_beq_eq_true h1.1
      subst this
      have : j = 0 := Nat.eq_of_beq_eq_true h1.2
      subst this
      refine ⟨h4, ?_⟩
      have : (Cont.tbl j' n len none).cells[e * 1 + 0]? = some (.tb j' (.row e (len e))) := by simp [Cont.cells, h3, tblC]
      exact denL_at hd this
    · cases h
  | jbs j' n sz' hd' len =>
    simp only [cellA] at h
    split at h
    · rename_i h1
      simp only [Bool.and_eq_true] at h1
      have : sz = sz' := Nat.eq_of_beq_eq_true h1.1
      subst this
      have hj : j < sz := Nat.le_of_ble_eq_true h1.2
      split at h
      · rename_i h2
        have h2 : j + 1 = sz := Nat.eq_of_beq_eq_true h2
        cases h
        obtain ⟨h3, h4⟩ := hc
        have h3 : e < n := h3
        refine ⟨h4, ?_⟩
        have := jbs_at (j := j') (hd := hd') (len := len) hj h3
        rw [if_pos h2] at this
        exact denL_at hd this
      · rename_i h2
        have h2 : ¬ j + 1 = sz := fun e => by rw [show Nat.succ j = sz from e] at h2; simp at h2
        split at h
        · rename_i v hv
          cases h
          obtain ⟨h3, h4⟩ := hc
          have h3 : e < n := h3
          refine ⟨h4, ?_⟩
          have := jbs_at (j := j') (hd := hd') (len := len) hj h3
          rw [nth_eq] at hv
          rw [if_neg h2, List.getD_eq_getElem?_getD, hv] at this
          exact denL_at hd this
        · cases h
    · cases h

/-- A list of integers whose elements are arrays of them, cell by cell. -/
def wideI (c : Cont) (sz : Nat) : Option (IntKind × List Int) := match c with
  | .ints k l => match Nat.beq sz 1 with | true => none | false => some (k, l)
  | _ => none
theorem wideI_at {ρ : Env} {c : Cont} {sz q : Nat} {k : IntKind} {l : List Int} {vs : List Value} (h : wideI c sz = some (k, l)) (hd : AV.denL ρ c.cells = some vs) (hq : q < l.length) : vs[q]? = some (.int k (l.getD q 0)) ∧ vs.length = l.length := by
  unfold wideI at h
  split at h
  · split at h
    · cases h
    · cases h
      have e : (Cont.ints k l).cells = (l.map (Value.int k)).map AV.lit := by simp [Cont.cells]
      rw [e, denL_lits] at hd
      cases hd
      simp [hq, List.getD]
  · cases h
def chunkCell (c : Chunk) (e sz j : Nat) (acc : List Cd) : Option (AV × List Cd) :=
  match c with
  | .blk _ l | .rb _ l => match nth l (e * sz + j) with | some a => some (a, acc) | none => none
  | .row _ n sz' c | .ro n sz' c => match wideI c sz with
    | some (k, l) => match Nat.beq sz sz' with
      | true => some (.lit (.int k (l.getD (e * sz + j) 0)), cd (e * sz + j < l.length) :: acc)
      | false => none
    | none => match Nat.beq sz sz' && Nat.blt j sz with
      | true => cellA c e sz j (cd (e < n) :: acc)
      | false => none
  | .obj _ => none
  | .fam .. => none

theorem addr_add' (a : Addr) (i j : Nat) : (a.add i).add j = a.add (i + j) := by
  unfold Addr.add
  by_cases hi : i = 0 <;> by_cases hj : j = 0 <;> simp [hi, hj, Nat.add_assoc]
theorem addr_zero (g k : Nat) : (⟨g, 0, none⟩ : Addr).add k = ⟨g, k, none⟩ := by unfold Addr.add; split <;> simp_all

theorem chunkCell_sound {ρ : Env} {i : Nat} {w : World} {c : Chunk} {e sz j : Nat} {acc acc' : List Cd} {r : AV} (h : chunkCell c e sz j acc = some (r, acc')) (hc : All acc') (hh : c.holds ρ i w) :
    All acc ∧ ∃ L a v, ρ i = some L ∧ L.ad = some a ∧ r.den ρ = some v ∧ w.cell? (a.add (e * sz + j)) = some v := by
  have lt_of : ∀ {n : Nat}, e < n → j < sz → e * sz + j < n * sz := by
    intro n he hj
    have := Nat.mul_le_mul_right sz (show e + 1 ≤ n by omega)
    rw [Nat.add_mul] at this; omega
  cases c with
  | blk t l =>
    simp only [chunkCell] at h
    split at h
    · rename_i a ha
      cases h
      obtain ⟨g, cap, vs, h1, h2, h3⟩ := hh
      obtain ⟨v, h4, h5⟩ := denL_at' h2 ha
      refine ⟨hc, _, _, v, h1, rfl, h4, ?_⟩
      rw [addr_zero, cell_of_row w g _ _ t (0, 0) h3]
      simpa using h5
    · cases h
  | rb t l =>
    simp only [chunkCell] at h
    split at h
    · rename_i a ha
      cases h
      obtain ⟨g, cap, vs, h1, h2, u, fr, h3⟩ := hh
      obtain ⟨v, h4, h5⟩ := denL_at' h2 ha
      refine ⟨hc, _, _, v, h1, rfl, h4, ?_⟩
      rw [addr_zero, cell_of_row w g _ _ u fr h3]
      simpa using h5
    · cases h
  | row t n sz' c =>
    simp only [chunkCell] at h
    split at h
    · rename_i k l hw
      split at h
      · cases h
        obtain ⟨hq, h5⟩ := hc
        obtain ⟨L, vs, h2, h3, h4⟩ := hh
        obtain ⟨h6, h7⟩ := wideI_at hw h3 hq
        have hne : ∃ a, L.ad = some a ∧ ∀ j u, vs[j]? = some u → w.cell? (a.add j) = some u := by
          rcases h4.2 with ⟨e1, e2⟩ | ⟨g, cap, cur, e1, _⟩
          · have hq : e * sz + j < l.length := hq
            have h8 := h4.1
            rw [e2, Nat.zero_mul] at h8
            omega
          · injection e1 with e1 e2 e3
            refine ⟨_, e1, ?_⟩
            exact h4.cells (g := g) (by rw [e1]; rfl)
        obtain ⟨a, e1, e2⟩ := hne
        exact ⟨h5, L, a, _, h2, e1, by simp only [AV.den], e2 _ _ h6⟩
      · cases h
    split at h
    · rename_i h1
      simp only [Bool.and_eq_true] at h1
      have : sz = sz' := Nat.eq_of_beq_eq_true h1.1
      subst this
      have hj : j < sz := Nat.le_of_ble_eq_true h1.2
      obtain ⟨L, vs, h2, h3, h4⟩ := hh
      obtain ⟨⟨he, h5⟩, v, h6, h7⟩ := cellA_sound h hc h3
      have hne : ∃ a, L.ad = some a ∧ ∀ j u, vs[j]? = some u → w.cell? (a.add j) = some u := by
        rcases h4.2 with ⟨e1, e2⟩ | ⟨g, cap, cur, e1, _⟩
        · omega
        · injection e1 with e1 e2 e3
          refine ⟨_, e1, ?_⟩
          exact h4.cells (g := g) (by rw [e1]; rfl)
      obtain ⟨a, e1, e2⟩ := hne
      exact ⟨h5, L, a, v, h2, e1, h6, e2 _ _ h7⟩
    · cases h
  | ro n sz' c =>
    simp only [chunkCell] at h
    split at h
    · rename_i k l hw
      split at h
      · cases h
        obtain ⟨hq, h5⟩ := hc
        have hq : e * sz + j < l.length := hq
        obtain ⟨L, vs, h2, h3, h4, h41, h42, h43⟩ := hh
        obtain ⟨h6, h7⟩ := wideI_at hw h3 hq
        obtain ⟨a, e1, e2⟩ := h43 (by omega)
        exact ⟨h5, L, a, _, h2, e1, by simp only [AV.den], e2 _ _ h6⟩
      · cases h
    split at h
    · rename_i h1
      simp only [Bool.and_eq_true] at h1
      have : sz = sz' := Nat.eq_of_beq_eq_true h1.1
      subst this
      have hj : j < sz := Nat.le_of_ble_eq_true h1.2
      obtain ⟨L, vs, h2, h3, h4, h41, h42, h43⟩ := hh
      obtain ⟨⟨he, h5⟩, v, h6, h7⟩ := cellA_sound h hc h3
      obtain ⟨a, e1, e2⟩ := h43 (by have := lt_of he hj; omega)
      exact ⟨h5, L, a, v, h2, e1, h6, e2 _ _ h7⟩
    · cases h
  | obj k => cases h
  | fam => cases h

/-- Several cells in a row. -/
def chunkCells (c : Chunk) (e sz : Nat) : (n j : Nat) → (acc : List Cd) → Option (List AV × List Cd)
  | 0, _, acc => some ([], acc)
  | n + 1, j, acc => match chunkCell c e sz j acc with
    | some (a, acc1) => match chunkCells c e sz n (j + 1) acc1 with
      | some (l, acc2) => some (a :: l, acc2)
      | none => none
    | none => none
theorem chunkCells_sound {ρ : Env} {i : Nat} {w : World} {c : Chunk} {e sz : Nat} {L : Loc} {a : Addr} (hL : ρ i = some L) (ha : L.ad = some a) (hh : c.holds ρ i w) : ∀ {n j : Nat} {acc acc' : List Cd} {l : List AV}, chunkCells c e sz n j acc = some (l, acc') → All acc' →
    All acc ∧ ∃ vs, AV.denL ρ l = some vs ∧ vs.length = n ∧ ∀ q v, vs[q]? = some v → w.cell? (a.add (e * sz + j + q)) = some v
  | 0, j, acc, acc', l, h, hc => by
    cases h
    exact ⟨hc, [], rfl, rfl, by simp⟩
  | n + 1, j, acc, acc', l, h, hc => by
    simp only [chunkCells] at h
    split at h
    · rename_i b acc1 h1
      split at h
      · rename_i m acc2 h2
        cases h
        obtain ⟨h3, vs, h4, h5, h6⟩ := chunkCells_sound hL ha hh h2 hc
        obtain ⟨h7, L', a', v, e1, e2, h8, h9⟩ := chunkCell_sound h1 h3 hh
        rw [hL] at e1; cases e1
        rw [ha] at e2; cases e2
        refine ⟨h7, v :: vs, by simp [AV.denL, h8, h4, listO], by simp [h5], fun q u hq => ?_⟩
        cases q with
        | zero => simp at hq; subst hq; simpa using h9
        | succ q => rw [show e * sz + j + (q + 1) = e * sz + (j + 1) + q by omega]; exact h6 q u (by simpa using hq)
      · cases h
    · cases h

def allLit : List AV → Bool
  | [] => true
  | .lit _ :: l => allLit l
  | _ :: _ => false
theorem allLit_den {ρ ρ' : Env} : ∀ {l : List AV} {vs : List Value}, allLit l = true → AV.denL ρ l = some vs → AV.denL ρ' l = some vs
  | [], vs, _, h => h
  | .lit v :: l, vs, h1, h => by
    simp only [AV.denL] at h ⊢
    obtain ⟨u, us, h2, h3, rfl⟩ := listO_some h
    simp only [AV.den, Option.some.injEq] at h2
    rw [allLit_den (ρ' := ρ') (show allLit l = true from h1) h3, ← h2]
    simp [AV.den, listO]
def loadA (tys : List (Nat × TyI)) (H : List (Nat × Chunk)) (t : TypeId) (x : AV) (acc : List Cd) : Option (AV × List Cd) :=
  match x with
  | .ptr i e sz j => match look i H, look t tys with
    | some c, some ⟨d, n, _, _⟩ => match isAggD d with
      | true => match chunkCells c e sz n j acc with | some (l, acc') => some (.agg l, acc') | none => none
      | false => chunkCell c e sz j acc
    | _, _ => none
  | .tb i (.cell e k sz f) => match look i H, look t tys with
    | some (.fam _ _ sz' n len c), some ⟨d, m, _, _⟩ => match isAggD d with
      | true => match chunkCells (.ro (len e) sz' (c e)) k sz m f (cd (e < n) :: acc) with
        | some (l, acc') => match allLit l with | true => some (.agg l, acc') | false => none
        | none => none
      | false => match chunkCell (.ro (len e) sz' (c e)) k sz f (cd (e < n) :: acc) with
        | some (.lit v, acc') => some (.lit v, acc')
        | _ => none
    | _, _ => none
  | _ => none
theorem loadA_sound {P : Program} {w : World} {tys : List (Nat × TyI)} {H : List (Nat × Chunk)} {ρ : Env} (hv : TValid P tys) (hh : Heap ρ (fun k => look k H) w) {t : TypeId} {x r : AV} {acc acc' : List Cd} {v : Value}
    (h : loadA tys H t x acc = some (r, acc')) (hc : All acc') (hx : x.den ρ = some v) : All acc ∧ ∃ u, r.den ρ = some u ∧ (Instr.loadAt t v).run P w = .ok u w := by
  cases x with
  | ptr i e sz j =>
    simp only [loadA] at h
    split at h
    · rename_i c d n by_ z h1 h2
      have hc' := hh.holds i c h1
      simp only [AV.den, Option.bind_eq_some_iff, Option.map_eq_some_iff] at hx
      obtain ⟨L, e1, ad, e2, rfl⟩ := hx
      have hagg := tv_isAgg (w := w) hv h2
      have hsz := tv_size (w := w) hv h2
      simp only at hagg hsz
      split at h
      · rename_i hd
        split at h
        · rename_i l acc1 h3
          cases h
          obtain ⟨h4, vs, h5, h6, h7⟩ := chunkCells_sound e1 e2 hc' h3 hc
          refine ⟨h4, _, by simp [AV.den, h5]; rfl, ?_⟩
          have := run_loadCells_list (P := P) w (ad.add (e * sz + j)) vs (fun q v hq => by rw [addr_add']; exact h7 q v hq)
          rw [h6] at this
          simp [Instr.loadAt, Instr.sureAddr, loadVar, hagg, hd, hsz, this]
        · cases h
      · rename_i hd
        obtain ⟨h4, L', a', u, e3, e4, h5, h6⟩ := chunkCell_sound h hc hc'
        rw [e1] at e3; cases e3
        rw [e2] at e4; cases e4
        refine ⟨h4, u, h5, ?_⟩
        simp [Instr.loadAt, Instr.sureAddr, loadVar, hagg, hd, load, Sem.run, h6]
    · cases h
  | tb i x =>
    cases x with
    | row e n => simp [loadA] at h
    | cell e k sz f =>
      simp only [loadA] at h
      simp only [AV.den, Option.bind_eq_some_iff, Tb.den, Option.map_eq_some_iff] at hx
      obtain ⟨L, e1, r, e2, a, e3, rfl⟩ := hx
      split at h
      · rename_i o te sz' n len c d m by_ z h1 h2
        have hagg := tv_isAgg (w := w) hv h2
        have hsz := tv_size (w := w) hv h2
        simp only at hagg hsz
        obtain ⟨L', e4, hf⟩ := hh.holds i _ h1
        rw [e1] at e4; cases e4
        have hro := (hf.2.2.1 e r e2).ro hf.1 (ρ := fun _ => some ⟨r.1, r.2⟩) (i := 0) rfl
        split at h
        · rename_i hd
          split at h
          · rename_i l acc1 h3
            split at h
            · rename_i hl
              cases h
              obtain ⟨h4, vs, h5, h6, h7⟩ := chunkCells_sound (ρ := fun _ => some ⟨r.1, r.2⟩) (i := 0) rfl e3 hro h3 hc
              refine ⟨h4.2, .agg vs.toArray, by simp only [AV.den, allLit_den hl h5, Option.map_some], ?_⟩
              have := run_loadCells_list (P := P) w (a.add (k * sz + f)) vs (fun q v hq => by rw [addr_add']; exact h7 q v hq)
              rw [h6] at this
              simp [Instr.loadAt, Instr.sureAddr, loadVar, hagg, hd, hsz, this]
            · cases h
          · cases h
        · rename_i hd
          split at h
          · rename_i u acc1 h3
            cases h
            obtain ⟨h4, L', a', u', e5, e6, h5, h6⟩ := chunkCell_sound h3 hc hro
            cases e5
            have e6 : r.1 = some a' := e6
            rw [e3] at e6; cases e6
            simp only [AV.den, Option.some.injEq] at h5
            subst h5
            refine ⟨h4.2, u, by simp only [AV.den], ?_⟩
            simp [Instr.loadAt, Instr.sureAddr, loadVar, hagg, hd, load, Sem.run, h6]
          · cases h
      · cases h
  | _ => cases h

end Go.Sym

namespace Go.Sym
open Go.RowKit

def revK {α β : Type} : List α → List α → (List α → β) → β
  | [], acc, k => k acc
  | a :: l, acc, k => revK l (a :: acc) k
def forceK {α β : Type} : List α → List α → (List α → β) → β
  | [], acc, k => revK acc [] k
  | a :: l, acc, k => forceK l (a :: acc) k
theorem revK_eq {α β : Type} (k : List α → β) : ∀ (l acc : List α), revK l acc k = k (l.reverse ++ acc)
  | [], acc => rfl
  | a :: l, acc => by rw [revK, revK_eq k l]; simp
theorem forceK_eq {α β : Type} (k : List α → β) : ∀ (l acc : List α), forceK l acc k = k (acc.reverse ++ l)
  | [], acc => by rw [forceK, revK_eq]
  | a :: l, acc => by rw [forceK, forceK_eq k l]; simp
theorem force_eq {α β : Type} (l : List α) (k : List α → β) : forceK l [] k = k l := by rw [forceK_eq]; rfl

/-- Numbers, spelled out: so that the next number is always a numeral. -/
def nums : List Nat := [0, 1, 2, 3, 4, 5, 6, 7, 8, 9, 10, 11, 12, 13, 14, 15, 16, 17, 18, 19, 20, 21, 22, 23, 24, 25, 26, 27, 28, 29, 30, 31, 32, 33, 34, 35, 36, 37, 38, 39, 40, 41, 42, 43, 44, 45, 46, 47, 48, 49, 50, 51, 52, 53, 54, 55, 56, 57, 58, 59, 60, 61, 62, 63, 64, 65, 66, 67, 68, 69, 70, 71, 72, 73, 74, 75, 76, 77, 78, 79, 80, 81, 82, 83, 84, 85, 86, 87, 88, 89, 90, 91, 92, 93, 94, 95, 96, 97, 98, 99, 100, 101, 102, 103, 104, 105, 106, 107, 108, 109, 110, 111, 112, 113, 114, 115, 116, 117, 118, 119, 120, 121, 122, 123, 124, 125, 126, 127, 128, 129, 130, 131, 132, 133, 134, 135, 136, 137, 138, 139, 140, 141, 142, 143, 144, 145, 146, 147, 148, 149, 150, 151, 152, 153, 154, 155, 156, 157, 158, 159, 160, 161, 162, 163, 164, 165, 166, 167, 168, 169, 170, 171, 172, 173, 174, 175, 176, 177, 178, 179, 180, 181, 182, 183, 184, 185, 186, 187, 188, 189, 190, 191, 192, 193, 194, 195, 196, 197, 198, 199, 200, 201, 202, 203, 204, 205, 206, 207, 208, 209, 210, 211, 212, 213, 214, 215, 216, 217, 218, 219, 220, 221, 222, 223, 224, 225, 226, 227, 228, 229, 230, 231, 232, 233, 234, 235, 236, 237, 238, 239, 240, 241, 242, 243, 244, 245, 246, 247, 248, 249, 250, 251, 252, 253, 254, 255, 256, 257, 258, 259, 260, 261, 262, 263, 264, 265, 266, 267, 268, 269, 270, 271, 272, 273, 274, 275, 276, 277, 278, 279, 280, 281, 282, 283, 284, 285, 286, 287, 288, 289, 290, 291, 292, 293, 294, 295, 296, 297, 298, 299]
set_option maxRecDepth 20000 in
theorem nums_eq : nums = List.range 300 := by decide +kernel
def nxt (n : Nat) : Option Nat := match Nat.add n 2 with
  | 0 => none
  | k + 1 => some k
theorem nxt_eq {n m : Nat} (h : nxt n = some m) : m = n + 1 := by
  unfold nxt at h
  split at h
  · cases h
  · rename_i k hk
    cases h
    have : n + 2 = m + 1 := hk
    omega

/-- A list with another one laid over it from a place on. -/
def lay {α : Type} : List α → Nat → List α → List α
  | [], _, _ => []
  | a :: l, 0, [] => a :: l
  | _ :: l, 0, b :: m => b :: lay l 0 m
  | a :: l, n + 1, m => a :: lay l n m

section
variable {P : Program} {w : World} {ρ : Env}

/-- Floating numbers: a sum, a difference, a product that is a number; equality. -/
def fltBin (op : BinOp) (k : FloatKind) (a b : Nat) (acc : List Cd) : Option (AV × List Cd) :=
  match op with
  | .add => some (.lit (.float k ((k.format.add a b).getD 0)), cd ((k.format.add a b).isSome = true) :: acc)
  | .sub => some (.lit (.float k ((k.format.sub a b).getD 0)), cd ((k.format.sub a b).isSome = true) :: acc)
  | .mul => some (.lit (.float k ((k.format.mul a b).getD 0)), cd ((k.format.mul a b).isSome = true) :: acc)
  | .eql => some (.lit (.bool (Op.floatEq k a b)), acc)
  | .neq => some (.lit (.bool (!Op.floatEq k a b)), acc)
  | .lss => some (.lit (.bool (k.format.order a b == some .lt)), acc)
  | .gtr => some (.lit (.bool (k.format.order a b == some .gt)), acc)
  | _ => none
theorem fltBin_sound (t : TypeId) {op : BinOp} {k : FloatKind} {a b : Nat} {r : AV} {acc acc' : List Cd} (h : fltBin op k a b acc = some (r, acc')) (hc : All acc') :
    All acc ∧ ∃ v, r = .lit v ∧ (binOp op t (.float k a) (.float k b)).run P w = .ok v w := by
  unfold fltBin at h
  split at h
  · cases h
    refine ⟨hc.2, _, rfl, ?_⟩
    obtain ⟨r, hr⟩ := Option.isSome_iff_exists.1 (show _ = true from hc.1)
    simp [binOp, Op.floatArith, hr]
  · cases h
    refine ⟨hc.2, _, rfl, ?_⟩
    obtain ⟨r, hr⟩ := Option.isSome_iff_exists.1 (show _ = true from hc.1)
    simp [binOp, Op.floatArith, hr]
  · cases h
    refine ⟨hc.2, _, rfl, ?_⟩
    obtain ⟨r, hr⟩ := Option.isSome_iff_exists.1 (show _ = true from hc.1)
    simp [binOp, Op.floatArith, hr]
  · cases h
    refine ⟨hc, _, rfl, ?_⟩
    simp [binOp, Op.floatCmp, Op.floatEq]
  · cases h
    refine ⟨hc, _, rfl, ?_⟩
    simp [binOp, Op.floatCmp, Op.floatEq]; rfl
  · cases h
    refine ⟨hc, _, rfl, ?_⟩
    simp [binOp, Op.floatCmp]
  · cases h
    refine ⟨hc, _, rfl, ?_⟩
    simp [binOp, Op.floatCmp]
  · cases h
theorem eqGuard_flt (op : BinOp) (t : TypeId) (x y : Operand) (k k' : FloatKind) (a b : Nat) : (eqGuard op t x y (.float k a) (.float k' b)).run P w = .ok () w := by
  unfold eqGuard; cases op <;> rfl

def binA (tys : List (Nat × TyI)) (op : BinOp) (xt : TypeId) (x y : AV) (acc : List Cd) : Option (AV × List Cd) :=
  match x, y with
  | .lit (.float .f64 a), .lit (.float .f64 b) => fltBin op .f64 a b acc
  | .lit (.float .f32 a), .lit (.float .f32 b) => fltBin op .f32 a b acc
  | .lit (.int k a), .lit (.int k' b) => match kEq k k' with | true => intBin op k a b acc | false => none
  | .lit (.string a), .lit (.string b) => strBin op a b acc
  | .lit (.bool a), .lit (.bool b) => match look xt tys, op with
    | some ⟨.bool, _, _, _⟩, .eql => some (.lit (.bool (a == b)), acc)
    | some ⟨.bool, _, _, _⟩, .neq => some (.lit (.bool (!(a == b))), acc)
    | _, _ => none
  | _, _ => none

theorem eqGuard_int (op : BinOp) (t : TypeId) (x y : Operand) (k k' : IntKind) (a b : Int) : (eqGuard op t x y (.int k a) (.int k' b)).run P w = .ok () w := by
  unfold eqGuard; cases op <;> rfl
theorem eqGuard_str (op : BinOp) (t : TypeId) (x y : Operand) (a b : ByteArray) : (eqGuard op t x y (.string a) (.string b)).run P w = .ok () w := by
  unfold eqGuard; cases op <;> rfl
theorem eqGuard_bool (op : BinOp) (t : TypeId) (x y : Operand) (a b : Bool) : (eqGuard op t x y (.bool a) (.bool b)).run P w = .ok () w := by
  unfold eqGuard; cases op <;> rfl

theorem equal_bool {t : TypeId} (hu : (underlying t).run P w = .ok .bool w) (a b : Bool) : (Op.equal t (.bool a) (.bool b)).run P w = .ok (a == b) w := by
  have : Op.maxDepth = 9999 + 1 := rfl
  rw [Op.equal, this, Op.equalIn]
  simp [hu]
theorem binA_sound {tys : List (Nat × TyI)} (hv : TValid P tys) {op : BinOp} {xt : TypeId} {x y r : AV} {acc acc' : List Cd} {vx vy : Value} (h : binA tys op xt x y acc = some (r, acc')) (hc : All acc')
    (hx : x.den ρ = some vx) (hy : y.den ρ = some vy) : All acc ∧ ∃ v, r.den ρ = some v ∧ ∀ xo yo, (do eqGuard op xt xo yo vx vy; binOp op xt vx vy).run P w = .ok v w := by
  unfold binA at h
  split at h
  · simp only [AV.den, Option.some.injEq] at hx hy
    subst hx hy
    obtain ⟨h1, v, rfl, h2⟩ := fltBin_sound (P := P) (w := w) xt h hc
    exact ⟨h1, v, by simp [AV.den], fun xo yo => by simp only [Sem.run_bind, eqGuard_flt, Result.andThen_ok, h2]⟩
  · simp only [AV.den, Option.some.injEq] at hx hy
    subst hx hy
    obtain ⟨h1, v, rfl, h2⟩ := fltBin_sound (P := P) (w := w) xt h hc
    exact ⟨h1, v, by simp [AV.den], fun xo yo => by simp only [Sem.run_bind, eqGuard_flt, Result.andThen_ok, h2]⟩
  · rename_i k a k' b
    simp only [AV.den, Option.some.injEq] at hx hy
    subst hx hy
    split at h
    · rename_i hk
      cases kEq_eq hk
      obtain ⟨h1, v, rfl, h2⟩ := intBin_sound (P := P) (w := w) xt h hc
      exact ⟨h1, v, by simp [AV.den], fun xo yo => by simp only [Sem.run_bind, eqGuard_int, Result.andThen_ok, h2]⟩
    · cases h
  · simp only [AV.den, Option.some.injEq] at hx hy
    subst hx hy
    obtain ⟨h1, v, rfl, h2⟩ := strBin_sound (P := P) (w := w) xt h hc
    exact ⟨h1, v, by simp [AV.den], fun xo yo => by simp only [Sem.run_bind, eqGuard_str, Result.andThen_ok, h2]⟩
  · simp only [AV.den, Option.some.injEq] at hx hy
    subst hx hy
    split at h
    · rename_i h1
      cases h
      have hu := tv_under (w := w) hv h1
      simp only at hu
      refine ⟨hc, _, by simp [AV.den]; rfl, fun xo yo => ?_⟩
      simp only [Sem.run_bind, eqGuard_bool, binOp, equal_bool hu, Result.andThen_ok, Sem.run_pure]
    · rename_i h1
      cases h
      have hu := tv_under (w := w) hv h1
      simp only at hu
      refine ⟨hc, _, by simp [AV.den]; rfl, fun xo yo => ?_⟩
      simp only [Sem.run_bind, eqGuard_bool, binOp, equal_bool hu, Result.andThen_ok, Sem.run_pure]
    · cases h
  · cases h

def unA (op : UnOp) (x : AV) (acc : List Cd) : Option (AV × List Cd) :=
  match op, x with
  | .neg, .lit (.int k n) => some (.lit (.int k (-n)), cd (InK k (-n)) :: acc)
  | .not, .lit (.bool b) => some (.lit (.bool (!b)), acc)
  | .neg, .lit (.float k b) => some (.lit (.float k (Op.negFloat k b)), acc)
  | _, _ => none
theorem unA_sound {op : UnOp} {x r : AV} {acc acc' : List Cd} {vx : Value} (h : unA op x acc = some (r, acc')) (hc : All acc') (hx : x.den ρ = some vx) :
    All acc ∧ ∃ v, r.den ρ = some v ∧ (Op.unary op vx).run P w = .ok v w := by
  unfold unA at h
  split at h
  · cases h
    simp only [AV.den, Option.some.injEq] at hx
    subst hx
    obtain ⟨h1, h2⟩ := hc
    refine ⟨h2, _, by simp [AV.den]; rfl, ?_⟩
    simp [Op.unary, Op.intArith, h1.wrap]
  · cases h
    simp only [AV.den, Option.some.injEq] at hx
    subst hx
    exact ⟨hc, _, by simp [AV.den]; rfl, by simp [Op.unary]⟩
  · cases h
    simp only [AV.den, Option.some.injEq] at hx
    subst hx
    exact ⟨hc, _, by simp [AV.den]; rfl, by simp [Op.unary]⟩
  · cases h

/-- A floating number cut to an integer, where it is one of the kind. -/
def fltToInt (src : FloatKind) (bits : Nat) (dst : IntKind) : Option Int :=
  match (src.decode bits).toInt .zero with
  | some n => if dst.min ≤ n ∧ n ≤ dst.max then some n else none
  | none => none
def convA (tys : List (Nat × TyI)) (s d : TypeId) (x : AV) (acc : List Cd) : Option (AV × List Cd) :=
  match look s tys, look d tys, x with
  | some _, some ⟨.int k, _, _, _⟩, .lit (.int _ n) => some (.lit (.int k n), cd (InK k n) :: acc)
  | some _, some ⟨.float k, _, _, _⟩, .lit (.int _ n) => some (.lit (.float k (k.nearest n)), acc)
  | some _, some ⟨.int k, _, _, _⟩, .lit (.float s b) => some (.lit (.int k ((fltToInt s b k).getD 0)), cd ((fltToInt s b k).isSome = true) :: acc)
  | _, _, _ => none
theorem convA_sound {tys : List (Nat × TyI)} (hv : TValid P tys) {s d : TypeId} {x r : AV} {acc acc' : List Cd} {vx : Value} (h : convA tys s d x acc = some (r, acc')) (hc : All acc') (hx : x.den ρ = some vx) :
    All acc ∧ ∃ v, r.den ρ = some v ∧ (convert s d vx).run P w = .ok v w := by
  unfold convA at h
  split at h
  · rename_i i k _ _ _ _ n h1 h2
    cases h
    simp only [AV.den, Option.some.injEq] at hx
    subst hx
    have hu := tv_under (w := w) hv h1
    have hu' := tv_under (w := w) hv h2
    simp only at hu'
    obtain ⟨h3, h4⟩ := hc
    refine ⟨h4, _, by simp [AV.den]; rfl, ?_⟩
    simp [convert, hu, hu', Conv.intToInt, h3.wrap]
  · rename_i i k _ _ _ _ n h1 h2
    cases h
    simp only [AV.den, Option.some.injEq] at hx
    subst hx
    have hu := tv_under (w := w) hv h1
    have hu' := tv_under (w := w) hv h2
    simp only at hu'
    refine ⟨hc, _, by simp [AV.den]; rfl, ?_⟩
    simp [convert, hu, hu', Conv.intToFloat]
  · rename_i i k _ _ _ s b h1 h2
    cases h
    simp only [AV.den, Option.some.injEq] at hx
    subst hx
    have hu := tv_under (w := w) hv h1
    have hu' := tv_under (w := w) hv h2
    simp only at hu'
    obtain ⟨h3, h4⟩ := hc
    refine ⟨h4, _, by simp [AV.den]; rfl, ?_⟩
    have h5 : (fltToInt s b k).isSome = true := h3
    unfold fltToInt at h5 ⊢
    split at h5
    · rename_i n hn
      split at h5
      · rename_i hb
        simp [convert, hu, hu', Conv.floatToInt, hn, hb.1, hb.2]
      · cases h5
    · cases h5
  · cases h

def fieldA (tys : List (Nat × TyI)) (s : TypeId) (x : AV) (f : Nat) (acc : List Cd) : Option (AV × List Cd) :=
  match look s tys, x with
  | some ⟨.struct fs, _, _, _⟩, .ptr i e sz j => match nth fs.toList f with
    | some fd => match look fd.type tys with
      | some ti => match Nat.beq ti.size 0 with
        | false => some (.ptr i e sz (j + fd.offset), acc)
        | true => none
      | none => none
    | none => none
  | some ⟨.struct fs, _, _, _⟩, .tb i (.cell e k sz j) => match nth fs.toList f with
    | some fd => match look fd.type tys with
      | some ti => match Nat.beq ti.size 0 with
        | false => some (.tb i (.cell e k sz (j + fd.offset)), acc)
        | true => none
      | none => none
    | none => none
  | _, _ => none
theorem fieldA_sound {tys : List (Nat × TyI)} (hv : TValid P tys) {s : TypeId} {f : Nat} {x r : AV} {acc acc' : List Cd} {vx : Value} (h : fieldA tys s x f acc = some (r, acc')) (hc : All acc') (hx : x.den ρ = some vx) :
    All acc ∧ ∃ v, r.den ρ = some v ∧ (Instr.fieldAt s vx f).run P w = .ok v w := by
  unfold fieldA at h
  split at h
  · rename_i fs _ _ _ i e sz j h1
    split at h
    · rename_i fd h2
      split at h
      · rename_i ti h3
        split at h
        · rename_i h4
          cases h
          simp only [AV.den, Option.bind_eq_some_iff, Option.map_eq_some_iff] at hx
          obtain ⟨L, e1, ad, e2, rfl⟩ := hx
          have hu := tv_under (w := w) hv h1
          simp only at hu
          have hsz := tv_size (w := w) hv h3
          have h5 : ti.size ≠ 0 := fun e => by rw [e] at h4; simp at h4
          rw [nth_eq, Array.getElem?_toList] at h2
          refine ⟨hc, .pointer (some (ad.add (e * sz + (j + fd.offset)))), by simp [AV.den, e1, e2], ?_⟩
          simp [Instr.fieldAt, hu, h2, Instr.sureAddr, fieldPlace, hsz, h5, addr_add', Nat.add_assoc]
        · cases h
      · cases h
    · cases h
  · rename_i fs _ _ _ i e k sz j h1
    split at h
    · rename_i fd h2
      split at h
      · rename_i ti h3
        split at h
        · rename_i h4
          cases h
          simp only [AV.den, Option.bind_eq_some_iff, Tb.den, Option.map_eq_some_iff] at hx
          obtain ⟨L, e1, r, e2, ad, e3, rfl⟩ := hx
          have hu := tv_under (w := w) hv h1
          simp only at hu
          have hsz := tv_size (w := w) hv h3
          have h5 : ti.size ≠ 0 := fun e => by rw [e] at h4; simp at h4
          rw [nth_eq, Array.getElem?_toList] at h2
          refine ⟨hc, .pointer (some (ad.add (k * sz + (j + fd.offset)))), by simp [AV.den, e1, Tb.den, e2, e3], ?_⟩
          simp [Instr.fieldAt, hu, h2, Instr.sureAddr, fieldPlace, hsz, h5, addr_add', Nat.add_assoc]
        · cases h
      · cases h
    · cases h
  · cases h

/-- The place of an element: e says which one it is. -/
def idx (h : Option Nat) (q : Int) (acc : List Cd) : Nat × List Cd :=
  match h with
  | some e => (e, cd (q = (e : Int)) :: acc)
  | none => (q.toNat, cd (0 ≤ q) :: acc)
theorem idx_sound {h : Option Nat} {q : Int} {acc acc' : List Cd} {e : Nat} (he : idx h q acc = (e, acc')) (hc : All acc') : All acc ∧ q = (e : Int) := by
  cases h with
  | some e' => cases he; exact ⟨hc.2, hc.1⟩
  | none => cases he; exact ⟨hc.2, by have := hc.1; omega⟩

def indexA (tys : List (Nat × TyI)) (H : List (Nat × Chunk)) (h : Option Nat) (t : TypeId) (x ix : AV) (acc : List Cd) : Option (AV × List Cd) :=
  match look t tys, x, ix with
  | some ⟨.slice el, _, _, _⟩, .sl i n, .lit (.int _ q) => match look el tys, look i H with
    | some ti, some (.row _ m sz _) | some ti, some (.ro m sz _) => match Nat.beq ti.size sz, idx h q acc with
      | true, (e, acc1) => some (.ptr i e sz 0, cd (e < n) :: cd (e < m ∧ 0 < sz) :: acc1)
      | false, _ => none
    | _, _ => none
  | some ⟨.slice el, _, _, _⟩, .tb i (.row r n), .lit (.int _ q) => match look el tys, look i H with
    | some ti, some (.fam _ _ sz m len _) => match Nat.beq ti.size sz, idx h q acc with
      | true, (e, acc1) => some (.tb i (.cell r e sz 0), cd (e < n) :: cd (r < m ∧ e < len r) :: acc1)
      | false, _ => none
    | _, _ => none
  | some ⟨.array len el, _, _, _⟩, .ptr i e1 sz1 j, .lit (.int _ q) => match look el tys with
    | some ti => match idx h q acc with
      | (e, acc1) => some (.ptr i e1 sz1 (j + e * ti.size), cd (e < len) :: acc1)
    | none => none
  | _, _, _ => none
theorem indexA_sound {tys : List (Nat × TyI)} (hv : TValid P tys) {H : List (Nat × Chunk)} (hh : Heap ρ (fun k => look k H) w) {hn : Option Nat} {t : TypeId} {x ix r : AV} {acc acc' : List Cd} {vx vi : Value}
    (h : indexA tys H hn t x ix acc = some (r, acc')) (hc : All acc') (hx : x.den ρ = some vx) (hi : ix.den ρ = some vi) :
    All acc ∧ ∃ v, r.den ρ = some v ∧ (Instr.indexAt t vx vi).run P w = .ok v w := by
  have key : ∀ {el : TypeId} {s1 s2 : Nat} {z : Value} {i n m sz e : Nat} {k : IntKind} {q : Int} {ti : TyI} {acc1 : List Cd} {c : Chunk}, look t tys = some ⟨.slice el, s1, s2, z⟩ → look el tys = some ti → look i H = some c →
      (∀ L, ρ i = some L → c.holds ρ i w → 0 < m * sz → ∃ a, L.ad = some a) → ti.size = sz → idx hn q acc = (e, acc1) → (e < n ∧ (e < m ∧ 0 < sz) ∧ All acc1) → AV.den ρ (.sl i n) = some vx → vi = .int k q →
      All acc ∧ ∃ v, AV.den ρ (.ptr i e sz 0) = some v ∧ (Instr.indexAt t vx vi).run P w = .ok v w := by
    intro el s1 s2 z i n m sz e k q ti acc1 c h1 h2 h3 had hs he hcc hx hvi
    subst hvi
    simp only [AV.den, Option.map_eq_some_iff] at hx
    obtain ⟨L, e1, rfl⟩ := hx
    obtain ⟨hn1, ⟨hn2, hn3⟩, hc2⟩ := hcc
    obtain ⟨h5, h6⟩ := idx_sound he hc2
    obtain ⟨ad, e2⟩ := had L e1 (hh.holds i c h3) (Nat.mul_pos (by omega) hn3)
    have hu := tv_under (w := w) hv h1
    simp only at hu
    have hsz := tv_size (w := w) hv h2
    refine ⟨h5, .pointer (some (ad.add (e * sz + 0))), by simp [AV.den, e1, e2], ?_⟩
    have h7 : 0 ≤ q ∧ q < n := by omega
    have h8 : q.toNat = e := by omega
    simp [Instr.indexAt, asIntOf, hu, e2, h7.1, h7.2, h8, hsz, hs]
  unfold indexA at h
  split at h
  · rename_i el _ _ _ i n k q h1
    simp only [AV.den, Option.some.injEq] at hi
    split at h
    · rename_i ti _ m sz _ h2 h3
      split at h
      · rename_i e acc1 h4 h5
        cases h
        refine key h1 h2 h3 ?_ (Nat.eq_of_beq_eq_true h4) h5 hc hx hi.symm
        rintro L eL ⟨L', vs, h6, h7, h8⟩ h0
        rw [eL] at h6; cases h6
        rcases h8.2 with ⟨e1, e2⟩ | ⟨g, cap, cur, e1, _⟩
        · subst e2; simp at h0
        · injection e1 with e1; exact ⟨_, e1⟩
      · cases h
    · rename_i ti m sz _ h2 h3
      split at h
      · rename_i e acc1 h4 h5
        cases h
        refine key h1 h2 h3 ?_ (Nat.eq_of_beq_eq_true h4) h5 hc hx hi.symm
        rintro L eL ⟨L', vs, h6, h7, h8, h9, h10, h11⟩ h0
        rw [eL] at h6; cases h6
        obtain ⟨a, ha, _⟩ := h11 h0
        exact ⟨a, ha⟩
      · cases h
    · cases h
  · rename_i el _ _ _ i r n k q h1
    simp only [AV.den, Option.some.injEq] at hi
    simp only [AV.den, Option.bind_eq_some_iff, Tb.den, Option.map_eq_some_iff] at hx
    obtain ⟨L, e1, rr, e2, rfl⟩ := hx
    subst hi
    have hu := tv_under (w := w) hv h1
    simp only at hu
    split at h
    · rename_i ti o te sz m len c h2 h3
      split at h
      · rename_i e acc1 h4 h5
        cases h
        obtain ⟨hn1, ⟨hn2, hn3⟩, hc2⟩ := hc
        have hn1 : e < n := hn1
        obtain ⟨h6, h7⟩ := idx_sound h5 hc2
        obtain ⟨L', e3, hf⟩ := hh.holds i _ h3
        rw [e1] at e3; cases e3
        obtain ⟨vs, _, _, _, _, h10, _⟩ := hf.2.2.1 r rr e2
        obtain ⟨ad, e5, _⟩ := h10 (Nat.mul_pos (by omega) hf.1)
        have hsz := tv_size (w := w) hv h2
        have hs1 : ti.size = sz := Nat.eq_of_beq_eq_true h4
        refine ⟨h6, .pointer (some (ad.add (e * sz + 0))), by simp [AV.den, e1, Tb.den, e2, e5], ?_⟩
        have h8 : 0 ≤ q ∧ q < n := by omega
        have h9 : q.toNat = e := by omega
        simp [Instr.indexAt, asIntOf, hu, e5, h8.1, h8.2, h9, hsz, hs1]
      · cases h
    · cases h
  · rename_i len el _ _ _ i e1 sz1 j k q h1
    simp only [AV.den, Option.some.injEq] at hi
    subst hi
    split at h
    · rename_i ti h2
      split at h
      rename_i e acc1 h3
      cases h
      simp only [AV.den, Option.bind_eq_some_iff, Option.map_eq_some_iff] at hx
      obtain ⟨L, e2, ad, e3, rfl⟩ := hx
      obtain ⟨hl, hc2⟩ := hc
      have hl : e < len := hl
      obtain ⟨h5, h6⟩ := idx_sound h3 hc2
      have hu := tv_under (w := w) hv h1
      simp only at hu
      have hsz := tv_size (w := w) hv h2
      refine ⟨h5, .pointer (some (ad.add (e1 * sz1 + (j + e * ti.size)))), by simp [AV.den, e2, e3], ?_⟩
      have h7 : 0 ≤ q ∧ q < len := by omega
      have h8 : q.toNat = e := by omega
      simp [Instr.indexAt, asIntOf, hu, Instr.sureAddr, h7.1, h7.2, h8, hsz, addr_add', Nat.add_assoc]
    · cases h
  · cases h

end
end Go.Sym

namespace Go.Sym
open Go.RowKit

/-- Several operands. -/
def evL (cfg : Cfg) (T : List (Nat × AV)) : List Operand → List Cd → Option (List AV × List Cd)
  | [], acc => some ([], acc)
  | x :: l, acc => match ev cfg T acc x with
    | some (a, acc1) => match evL cfg T l acc1 with
      | some (m, acc2) => some (a :: m, acc2)
      | none => none
    | none => none

/-- An operation that the table does not know, with its value. -/
structure Custom where
  run : Oper → List AV → Option AV
def Custom.ok (P : Program) (c : Custom) : Prop := ∀ (o : Oper) (l : List AV) (r : AV), c.run o l = some r → ∀ (ρ : Env) (w : World) (e : Operand → Value) (vs : List Value), AV.denL ρ l = some vs → o.op.operands.toList.map e = vs →
  ∃ v, r.den ρ = some v ∧ (execOp e o).run P w = .ok (.value v) w

section
variable {cfg : Cfg} {P : Program} {T : List (Nat × AV)} {H : List (Nat × Chunk)} {ρ : Env} {a : Act} {w : World}

theorem evL_sound (hk : Know cfg P (fun k => look k T) (fun k => look k H) ρ a w) : ∀ {l : List Operand} {acc acc' : List Cd} {r : List AV}, evL cfg T l acc = some (r, acc') → All acc' →
    All acc ∧ ∃ vs, AV.denL ρ r = some vs ∧ l.map a.eval = vs
  | [], acc, acc', r, h, hc => by cases h; exact ⟨hc, [], rfl, rfl⟩
  | x :: l, acc, acc', r, h, hc => by
    simp only [evL] at h
    split at h
    · rename_i b acc1 h1
      split at h
      · rename_i m acc2 h2
        cases h
        obtain ⟨h3, vs, h4, h5⟩ := evL_sound hk h2 hc
        obtain ⟨h6, v, h7, h8⟩ := ev_sound hk h1 h3
        exact ⟨h6, v :: vs, by simp [AV.denL, h7, h4, listO], by simp [h8, h5]⟩
      · cases h
    · cases h

/-- A branch's value, there if the branch is taken. -/
def evIf (cfg : Cfg) (T : List (Nat × AV)) (p : Prop) (acc : List Cd) : Operand → Option (AV × List Cd)
  | .tmp t => match look t T with
    | some (.cnd b x) => some (x, cp (p → b = true) :: acc)
    | some a => some (a, acc)
    | none => none
  | .const v => some (.lit v, acc)
  | _ => none
theorem evIf_sound (hk : Know cfg P (fun k => look k T) (fun k => look k H) ρ a w) {p : Prop} {acc acc' : List Cd} {x : Operand} {r : AV} (h : evIf cfg T p acc x = some (r, acc')) (hc : All acc') :
    All acc ∧ (p → ∃ v, r.den ρ = some v ∧ a.eval x = v) := by
  cases x with
  | tmp t =>
    simp only [evIf] at h
    cases ht : look t T with
    | none => rw [ht] at h; cases h
    | some av =>
      obtain ⟨v, h1, h2⟩ := hk.tm t av ht
      rw [ht] at h
      cases av with
      | cnd b x =>
        cases h
        obtain ⟨h4, h3⟩ := hc
        refine ⟨h3, fun hp => ?_⟩
        obtain rfl := h4 hp
        exact ⟨v, by simpa [AV.den] using h1, eval_tmp h2⟩
      | _ => cases h; exact ⟨hc, fun _ => ⟨v, h1, eval_tmp h2⟩⟩
  | const v => cases h; exact ⟨hc, fun _ => ⟨v, by simp [AV.den], rfl⟩⟩
  | func f => cases h
  | global g => cases h

def pickA (b : Bool) (x y : AV) : Option AV :=
  match x, y with
  | .lit (.bool p), .lit (.bool q) => some (.lit (.bool (bif b then p else q)))
  | .lit (.int k p), .lit (.int k' q) => match kEq k k' with | true => some (.lit (.int k (bif b then p else q))) | false => none
  | x, y => match b with | true => some x | false => some y
theorem pickA_sound {b : Bool} {x y r : AV} {vx vy : Value} (h : pickA b x y = some r) (hx : b = true → x.den ρ = some vx) (hy : b = false → y.den ρ = some vy) : r.den ρ = some (if b then vx else vy) := by
  unfold pickA at h
  split at h
  · cases h
    cases b
    · simpa [AV.den] using hy rfl
    · simpa [AV.den] using hx rfl
  · split at h
    · rename_i hk
      cases kEq_eq hk
      cases h
      cases b
      · simpa [AV.den] using hy rfl
      · simpa [AV.den] using hx rfl
    · cases h
  · split at h
    · cases h; simpa using hx rfl
    · cases h; simpa using hy rfl

/-- The cells of a composite value: parts laid over zeros. -/
def fillA (cfg : Cfg) (T : List (Nat × AV)) (place : Nat → Option (Nat × Nat)) : List (Nat × Operand) → List AV → List Cd → Option (List AV × List Cd)
  | [], cs, acc => some (cs, acc)
  | (i, x) :: rest, cs, acc => match place i with
    | none => none
    | some (off, size) => match ev cfg T acc x with
      | none => none
      | some (v, acc1) => match cellsOf v with
        | none => none
        | some l => match Nat.beq l.length size && Nat.ble (off + size) cs.length with
          | true => forceK (lay cs off l) [] fun cs' => fillA cfg T place rest cs' acc1
          | false => none

theorem lay_nil {α : Type} : ∀ (n : Nat) (l : List α), lay l n [] = l
  | n, [] => by cases n <;> rfl
  | 0, a :: l => rfl
  | n + 1, a :: l => by rw [lay, lay_nil n l]
theorem lay_eq {α : Type} : ∀ (n : Nat) (l m : List α), n + m.length ≤ l.length → lay l n m = l.take n ++ m ++ l.drop (n + m.length)
  | n, [], m, h => by
    have h1 : m = [] := List.eq_nil_of_length_eq_zero (by simp only [List.length_nil] at h; omega)
    subst h1
    simp [lay]
  | 0, a :: l, [], _ => by simp [lay]
  | 0, a :: l, b :: m, h => by
    rw [lay, lay_eq 0 l m (by simp at h ⊢; omega)]
    simp
  | n + 1, a :: l, m, h => by
    rw [lay, lay_eq n l m (by simp at h ⊢; omega)]
    simp [show n + 1 + m.length = (n + m.length) + 1 by omega]
theorem foldl_lay (vs : List Value) : ∀ (k : Nat) (off : Nat) (cs : Array Value), off + k + vs.length ≤ cs.size →
    ((vs.zipIdx k).foldl (fun cs (p : Value × Nat) => cs.setIfInBounds (off + p.2) p.1) cs).toList = lay cs.toList (off + k) vs := by
  induction vs with
  | nil => intro k off cs h; simp [lay_nil]
  | cons v vs ih =>
    intro k off cs h
    simp only [List.zipIdx_cons, List.foldl_cons]
    simp only [List.length_cons] at h
    rw [ih (k + 1) off _ (by simp; omega)]
    simp only [Array.toList_setIfInBounds]
    rw [lay_eq _ _ _ (by simp; omega), lay_eq _ _ _ (by simp; omega)]
    have e1 : off + (k + 1) = off + k + 1 := by omega
    have e2 : off + k + (v :: vs).length = off + (k + 1) + vs.length := by simp; omega
    rw [e2, e1, List.take_add_one]
    have hlt : off + k < cs.toList.length := by simp; omega
    rw [List.take_set_of_le (Nat.le_refl _), List.getElem?_set_self hlt]
    rw [List.drop_set_of_lt (by omega)]
    simp

theorem denL_lay {l m : List AV} {vs us : List Value} (h : AV.denL ρ l = some vs) (h' : AV.denL ρ m = some us) : ∀ n, AV.denL ρ (lay l n m) = some (lay vs n us) := by
  intro n
  induction l generalizing vs us m n with
  | nil => simp [AV.denL] at h; subst h; cases n <;> simp [lay, AV.denL]
  | cons a l ih =>
    have h0 := h
    simp only [AV.denL] at h
    obtain ⟨v, ws, h1, h2, rfl⟩ := listO_some h
    cases n with
    | zero =>
      cases m with
      | nil => simp only [AV.denL, Option.some.injEq] at h'; subst h'; simpa [lay] using h0
      | cons b m =>
        simp only [AV.denL] at h'
        obtain ⟨u, xs, h3, h4, rfl⟩ := listO_some h'
        simp only [lay, AV.denL, h3, ih h2 h4 0, listO]
    | succ n => simp only [lay, AV.denL, h1, ih h2 h' n, listO]

theorem ev_acc {acc acc' : List Cd} {x : Operand} {r : AV} (h : ev cfg T acc x = some (r, acc')) (hc : All acc') : All acc := by
  cases x with
  | tmp t =>
    simp only [ev] at h
    split at h
    · cases h; exact hc.2
    · cases h; exact hc
    · cases h
  | const v => cases h; exact hc
  | func f => cases h; exact hc
  | global g =>
    simp only [ev] at h
    split at h
    · cases h; exact hc
    · cases h
theorem fillA_acc {place : Nat → Option (Nat × Nat)} : ∀ {parts : List (Nat × Operand)} {cs cs' : List AV} {acc acc' : List Cd}, fillA cfg T place parts cs acc = some (cs', acc') → All acc' → All acc
  | [], cs, cs', acc, acc', h, hc => by cases h; exact hc
  | (i, x) :: rest, cs, cs', acc, acc', h, hc => by
    simp only [fillA] at h
    split at h
    · cases h
    · split at h
      · cases h
      · rename_i v acc1 h2
        split at h
        · cases h
        · split at h
          · rw [force_eq] at h
            exact ev_acc h2 (fillA_acc h hc)
          · cases h

theorem fillA_sound (hk : Know cfg P (fun k => look k T) (fun k => look k H) ρ a w) {place : Nat → Option (Nat × Nat)} : ∀ {parts : List (Nat × Operand)} {cs cs' : List AV} {acc acc' : List Cd} {vs : Array Value},
    fillA cfg T place parts cs acc = some (cs', acc') → All acc' → AV.denL ρ cs = some vs.toList → ∃ us : Array Value, AV.denL ρ cs' = some us.toList ∧ Instr.fill place vs (parts.map fun p => (p.1, a.eval p.2)) = some us ∧ us.size = vs.size
  | [], cs, cs', acc, acc', vs, h, hc, hd => by cases h; exact ⟨vs, hd, rfl, rfl⟩
  | (i, x) :: rest, cs, cs', acc, acc', vs, h, hc, hd => by
    simp only [fillA] at h
    split at h
    · cases h
    · rename_i off size h1
      split at h
      · cases h
      · rename_i v acc1 h2
        split at h
        · cases h
        · rename_i l h3
          split at h
          · rename_i h4
            simp only [Bool.and_eq_true] at h4
            rw [force_eq] at h
            have hlen : l.length = size := Nat.eq_of_beq_eq_true h4.1
            have hle : off + size ≤ cs.length := Nat.le_of_ble_eq_true h4.2
            have hl := denL_len hd
            obtain ⟨_, u, hu1, hu2⟩ := ev_sound hk h2 (fillA_acc h hc)
            have hu3 := cellsOf_den h3 hu1
            have hu4 := denL_len hu3
            have hsz : u.cells.size = size := by rw [← hlen, ← hu4]; simp
            have hszv : off + size ≤ vs.size := by rw [← Array.length_toList, hl]; exact hle
            have hfold := foldl_lay u.cells.toList 0 off vs (by simp; omega)
            have hd2 := denL_lay hd hu3 off
            rw [Nat.add_zero] at hfold
            rw [← hfold] at hd2
            obtain ⟨us, h5, h6, h7⟩ := fillA_sound hk h hc hd2
            have hcond : ¬ (u.cells.size ≠ size ∨ vs.size < off + u.cells.size) := by omega
            refine ⟨us, h5, ?_, ?_⟩
            · simp only [List.map_cons, Instr.fill, h1, hu2]
              rw [if_neg (by simpa using hcond)]
              rw [← h6]
              congr 1
              rw [← Array.foldl_toList, Array.toList_zipIdx]
            · rw [h7, ← Array.length_toList, hfold, lay_eq _ _ _ (by simp; omega)]
              simp; omega
          · cases h

/-- The places of a struct's fields. -/
def places (tys : List (Nat × TyI)) (fs : List Field) : Nat → Option (Nat × Nat) := fun i =>
  match nth fs i with
  | some f => match look f.type tys with | some ti => some (f.offset, ti.size) | none => none
  | none => none

def buildA (cfg : Cfg) (T : List (Nat × AV)) (t : TypeId) (parts : List (Nat × Operand)) (acc : List Cd) : Option (AV × List Cd) :=
  match look t cfg.tys with
  | some ⟨.struct fs, _, _, z⟩ => match fs.toList.all (fun f => (look f.type cfg.tys).isSome), cellsOf (.lit z) with
    | true, some zs => match fillA cfg T (places cfg.tys fs.toList) parts zs acc with
      | some (cs, acc1) => some (.agg cs, acc1)
      | none => none
    | _, _ => none
  | some ⟨.array _ e, _, _, z⟩ => match look e cfg.tys, cellsOf (.lit z) with
    | some ti, some zs => match fillA cfg T (fun i => some (i * ti.size, ti.size)) parts zs acc with
      | some (cs, acc1) => some (.agg cs, acc1)
      | none => none
    | _, _ => none
  | _ => none

theorem fill_congr {p q : Nat → Option (Nat × Nat)} (h : ∀ i, p i = q i) (cs : Array Value) (l : List (Nat × Value)) : Instr.fill p cs l = Instr.fill q cs l := by rw [funext h]

theorem mapM_places {tys : List (Nat × TyI)} (hv : TValid P tys) : ∀ (fs : List Field), fs.all (fun f => (look f.type tys).isSome) = true →
    (fs.mapM (m := Sem) fun f => do let s ← sizeOf f.type; pure (f.offset, s)).run P w = .ok (fs.map fun f => (f.offset, ((look f.type tys).map (·.size)).getD 0)) w
  | [], _ => rfl
  | f :: fs, h => by
    simp only [List.all_cons, Bool.and_eq_true] at h
    obtain ⟨ti, hti⟩ := Option.isSome_iff_exists.1 h.1
    have h1 := tv_size (w := w) hv hti
    have ih := mapM_places hv fs h.2
    simp only [List.mapM_cons, Sem.run_bind, h1, Result.andThen_ok, Sem.run_pure, ih, List.map_cons, hti]
    rfl

theorem buildA_sound (hk : Know cfg P (fun k => look k T) (fun k => look k H) ρ a w) {t : TypeId} {parts : Array (Nat × Operand)} {acc acc' : List Cd} {r : AV} (h : buildA cfg T t parts.toList acc = some (r, acc')) (hc : All acc') :
    All acc ∧ ∃ v, r.den ρ = some v ∧ (Instr.build t (parts.map fun (i, x) => (i, a.eval x))).run P w = .ok v w := by
  have hmap : (parts.map fun (i, x) => (i, a.eval x)).toList = parts.toList.map fun p => (p.1, a.eval p.2) := by simp
  unfold buildA at h
  split at h
  · rename_i fs _ _ z h1
    have hu := tv_under (w := w) hk.tv h1
    have hz := tv_zero (w := w) hk.tv h1
    simp only at hu hz
    split at h
    · rename_i zs h2 h3
      split at h
      · rename_i cs acc1 h4
        cases h
        have hzd := cellsOf_den (ρ := ρ) (v := z) h3 (by simp [AV.den])
        obtain ⟨us, h5, h6, _⟩ := fillA_sound hk h4 hc hzd
        refine ⟨fillA_acc h4 hc, .agg us, by simp [AV.den, h5], ?_⟩
        have hm := mapM_places (w := w) hk.tv fs.toList h2
        have e1 : ∀ i, (fs.toList.map fun f => (f.offset, ((look f.type cfg.tys).map (·.size)).getD 0)).toArray[i]? = places cfg.tys fs.toList i := by
          intro i
          simp only [places, nth_eq, List.getElem?_toArray, List.getElem?_map]
          cases hf : fs.toList[i]? with
          | none => rfl
          | some f =>
            have := List.all_eq_true.1 h2 f (List.mem_of_getElem? hf)
            obtain ⟨ti, hti⟩ := Option.isSome_iff_exists.1 this
            simp [hti]
        rw [← hmap] at h6
        have e2 : Instr.fill (fun i => (fs.toList.map fun f => (f.offset, ((look f.type cfg.tys).map (·.size)).getD 0)).toArray[i]?) z.cells (parts.map fun (i, x) => (i, a.eval x)).toList = some us := by
          rw [fill_congr e1]; exact h6
        simp only [Instr.build, Sem.run_bind, hz, Result.andThen_ok, hu, Array.mapM_eq_mapM_toList, Sem.run_map, hm, e2]
        rfl
      · cases h
    · cases h
  · rename_i n e _ _ z h1
    have hu := tv_under (w := w) hk.tv h1
    have hz := tv_zero (w := w) hk.tv h1
    simp only at hu hz
    split at h
    · rename_i ti zs h2 h3
      have hs := tv_size (w := w) hk.tv h2
      split at h
      · rename_i cs acc1 h4
        cases h
        have hzd := cellsOf_den (ρ := ρ) (v := z) h3 (by simp [AV.den])
        obtain ⟨us, h5, h6, _⟩ := fillA_sound hk h4 hc hzd
        refine ⟨fillA_acc h4 hc, .agg us, by simp [AV.den, h5], ?_⟩
        simp only [Instr.build, Sem.run_bind, hz, Result.andThen_ok, hu, hs, hmap, h6]
        rfl
      · cases h
    · cases h
  · cases h
end
end Go.Sym

namespace Go.Sym
open Go.RowKit

def lenA (tys : List (Nat × TyI)) (t : TypeId) (x : AV) : Option AV :=
  match look t tys, x with
  | some ⟨.slice _, _, _, _⟩, .sl _ n => some (.lit (.int .i64 (n : Int)))
  | some ⟨.slice _, _, _, _⟩, .tb _ (.row _ n) => some (.lit (.int .i64 (n : Int)))
  | some ⟨.slice _, _, _, _⟩, .lit (.slice _ n _) => some (.lit (.int .i64 (n : Int)))
  | some ⟨.string, _, _, _⟩, .lit (.string s) => some (.lit (.int .i64 (s.size : Int)))
  | some ⟨.array n _, _, _, _⟩, _ => some (.lit (.int .i64 (n : Int)))
  | _, _ => none

/-- A key is another one. -/
def keyB : Value → Value → Option Bool
  | .string a, .string b => some (decide (a = b))
  | .int k a, .int k' b => match kEq k k' with | true => some (decide (a = b)) | false => none
  | _, _ => none
def keyD : TypeDesc → Value → Bool
  | .string, .string _ => true
  | .int k, .int k' _ => kEq k' k
  | _, _ => false
theorem keyD_is {d : TypeDesc} {k : Value} (h : keyD d k = true) : MapKept.IsKey d k := by
  cases d <;> cases k <;> first | exact trivial | exact kEq_eq h | cases h
theorem keyB_same {d : TypeDesc} {k k' : Value} {b : Bool} (hd : keyD d k = true) (h : keyB k k' = some b) : Instr.sameNow d k k' = some b ∧ (b = true → k = k') := by
  cases k <;> cases k' <;> try (cases h; done)
  · simp only [keyB] at h
    split at h
    · rename_i hk
      cases kEq_eq hk
      cases h
      cases d <;> first | cases hd | skip
      refine ⟨?_, fun h => by rw [of_decide_eq_true h]⟩
      simp only [Instr.sameNow, if_true]
      rfl
    · cases h
  · simp only [keyB, Option.some.injEq] at h
    subst h
    cases d <;> first | cases hd | skip
    refine ⟨?_, fun h => by rw [of_decide_eq_true h]⟩
    simp only [Instr.sameNow, Option.some.injEq]
    rename_i x y
    by_cases e : x = y
    · simp only [e, decide_true]; exact (MapKept.bytes_beq y y).2 rfl
    · simp only [e, decide_false]
      cases hb : x == y with
      | false => rfl
      | true => exact absurd ((MapKept.bytes_beq x y).1 hb) e
def findE (k : Value) : List (Value × AV) → Option (Option AV)
  | [] => some none
  | (k', a) :: l => match keyB k k' with
    | some true => some (some a)
    | some false => findE k l
    | none => none
theorem findE_sound {ρ : Env} {d : TypeDesc} {k : Value} (hd : keyD d k = true) : ∀ {l : List (Value × AV)} {n : Nat} {m : List MapEntry} {r : Option AV}, Ents ρ n l m → findE k l = some r → ∀ i,
    (r = none ∧ Instr.findNow d k m i = some none) ∨ ∃ a v j e, r = some a ∧ a.den ρ = some v ∧ Instr.findNow d k m i = some (some (i + j, v)) ∧ m[j]? = some e ∧ e.val = v
  | [], n, m, r, he, h, i => by cases h; rw [show m = _ from he]; exact .inl ⟨rfl, rfl⟩
  | (k', a) :: l, n, m, r, ⟨v, m', h1, h2, h3⟩, h, i => by
    subst h2
    simp only [findE] at h
    split at h
    · rename_i hk
      cases h
      exact .inr ⟨a, v, 0, _, rfl, h1, by simp [Instr.findNow, (keyB_same hd hk).1], rfl, rfl⟩
    · rename_i hk
      rcases findE_sound hd h3 h (i + 1) with ⟨e1, e2⟩ | ⟨b, u, j, e, e1, e2, e3, e4, e5⟩
      · exact .inl ⟨e1, by simp [Instr.findNow, (keyB_same hd hk).1, e2]⟩
      · exact .inr ⟨b, u, j + 1, e, e1, e2, by simp [Instr.findNow, (keyB_same hd hk).1, e3]; omega, by simpa using e4, e5⟩
    · cases h
def memS (l : List ByteArray) (s : ByteArray) : Bool := l.any fun x => decide (s = x)
theorem findSet {s : ByteArray} : ∀ (l : List ByteArray) (n i : Nat), Instr.findNow .string (.string s) (setEnts n l) i = some (match l.findIdx? (fun x => decide (s = x)) with | some j => some (i + j, .bool true) | none => none)
  | [], n, i => rfl
  | x :: l, n, i => by
    simp only [setEnts, Instr.findNow, Instr.sameNow, List.findIdx?_cons]
    by_cases e : s = x
    · rw [(MapKept.bytes_beq s x).2 e]; simp [e]
    · have : (s == x) = false := by
        cases hb : s == x with
        | false => rfl
        | true => exact absurd ((MapKept.bytes_beq s x).1 hb) e
      rw [this]
      simp only [e, decide_false, Bool.false_eq_true, if_false]
      rw [findSet l (n + 1) (i + 1)]
      cases l.findIdx? (fun x => decide (s = x)) with
      | none => rfl
      | some j => simp; omega
theorem memS_find (l : List ByteArray) (s : ByteArray) : memS l s = (l.findIdx? (fun x => decide (s = x))).isSome := by
  unfold memS
  rw [List.findIdx?_isSome]
def memI (l : List Int) (s : Int) : Bool := l.any fun x => decide (s = x)
theorem findISet {s : Int} : ∀ (l : List Int) (n i : Nat), Instr.findNow (.int .i64) (.int .i64 s) (isetEnts n l) i = some (match l.findIdx? (fun x => decide (s = x)) with | some j => some (i + j, .bool true) | none => none)
  | [], n, i => rfl
  | x :: l, n, i => by
    have hs : Instr.sameNow (.int .i64) (.int .i64 s) (.int .i64 x) = some (decide (s = x)) := (keyB_same (d := .int .i64) (k := .int .i64 s) (k' := .int .i64 x) rfl rfl).1
    simp only [isetEnts, Instr.findNow, hs, List.findIdx?_cons]
    by_cases e : s = x
    · simp [e]
    · simp only [e, decide_false, Bool.false_eq_true, if_false]
      rw [findISet l (n + 1) (i + 1)]
      cases l.findIdx? (fun x => decide (s = x)) with
      | none => rfl
      | some j => simp; omega
theorem memI_find (l : List Int) (s : Int) : memI l s = (l.findIdx? (fun x => decide (s = x))).isSome := by
  unfold memI
  rw [List.findIdx?_isSome]
def ixV (l : List ByteArray) (s : ByteArray) : Int := match l.findIdx? (fun x => decide (s = x)) with
  | some j => (j : Int)
  | none => 0
theorem findIx {s : ByteArray} : ∀ (l : List ByteArray) (n i : Nat), Instr.findNow .string (.string s) (ixEnts n l) i = some (match l.findIdx? (fun x => decide (s = x)) with | some j => some (i + j, .int .i64 ((n + j : Nat) : Int)) | none => none)
  | [], n, i => rfl
  | x :: l, n, i => by
    simp only [ixEnts, Instr.findNow, Instr.sameNow, List.findIdx?_cons]
    by_cases e : s = x
    · rw [(MapKept.bytes_beq s x).2 e]; simp [e]
    · have : (s == x) = false := by
        cases hb : s == x with
        | false => rfl
        | true => exact absurd ((MapKept.bytes_beq s x).1 hb) e
      rw [this]
      simp only [e, decide_false, Bool.false_eq_true, if_false]
      rw [findIx l (n + 1) (i + 1)]
      cases l.findIdx? (fun x => decide (s = x)) with
      | none => rfl
      | some j => simp; omega
def lookA (tys : List (Nat × TyI)) (H : List (Nat × Chunk)) (t : TypeId) (x k : AV) (ok : Bool) (acc : List Cd) : Option (AV × List Cd) :=
  match look t tys, x, k with
  | some ⟨.map kt et, _, _, _⟩, .mp i, .lit key => match look i H, look kt tys, look et tys with
    | some (.obj (.map es)), some ⟨kd, _, _, _⟩, some ⟨_, _, _, z⟩ => match keyD kd key, findE key es with
      | true, some (some a) => some (match ok with | true => .tup [a, .lit (.bool true)] | false => a, acc)
      | true, some none => some (match ok with | true => .tup [.lit z, .lit (.bool false)] | false => .lit z, acc)
      | _, _ => none
    | some (.obj (.set l)), some ⟨.string, _, _, _⟩, some ⟨_, _, _, .bool false⟩ => match key with
      | .string s => some (match ok with | true => .tup [.lit (.bool (memS l s)), .lit (.bool (memS l s))] | false => .lit (.bool (memS l s)), acc)
      | _ => none
    | some (.obj (.iset l)), some ⟨.int .i64, _, _, _⟩, some ⟨_, _, _, .bool false⟩ => match key with
      | .int .i64 s => some (match ok with | true => .tup [.lit (.bool (memI l s)), .lit (.bool (memI l s))] | false => .lit (.bool (memI l s)), acc)
      | _ => none
    | some (.obj (.ix l)), some ⟨.string, _, _, _⟩, some ⟨_, _, _, .int .i64 0⟩ => match key with
      | .string s => some (match ok with | true => .tup [.lit (.int .i64 (ixV l s)), .lit (.bool (memS l s))] | false => .lit (.int .i64 (ixV l s)), acc)
      | _ => none
    | _, _, _ => none
  | _, _, _ => none
theorem lookA_sound {P : Program} {w : World} {tys : List (Nat × TyI)} {H : List (Nat × Chunk)} {ρ : Env} (hv : TValid P tys) (hh : Heap ρ (fun k => look k H) w) {t : TypeId} {x k r : AV} {ok : Bool} {acc acc' : List Cd} {vx vk : Value}
    (h : lookA tys H t x k ok acc = some (r, acc')) (hx : x.den ρ = some vx) (hk : k.den ρ = some vk) : acc' = acc ∧ ∃ u, r.den ρ = some u ∧ (Instr.lookup t vx vk ok).run P w = .ok u w := by
  unfold lookA at h
  split at h
  case h_2 => cases h
  rename_i kt et _ _ _ i key ht
  simp only [AV.den, Option.bind_eq_some_iff, Option.map_eq_some_iff, Option.some.injEq] at hx hk
  obtain ⟨L, e1, ad, e2, rfl⟩ := hx
  subst hk
  have hut := (hv t _ (look_mem ht)).1
  split at h
  · rename_i es kd _ _ _ _ _ _ z h1 h2 h3
    obtain ⟨g, cap, o, f1, ⟨m, f2, f3⟩, f4⟩ := hh.holds i _ h1
    rw [f1] at e1; cases e1; cases e2
    subst f3
    have huk := (hv kt _ (look_mem h2)).1
    have hz := tv_zero (w := w) hv h3
    split at h
    · rename_i a h4 h5
      cases h
      refine ⟨rfl, ?_⟩
      rcases findE_sound h4 f2 h5 0 with ⟨q, _⟩ | ⟨b, v, j, e, q1, q2, q3, _⟩
      · cases q
      cases q1
      cases ok with
      | true => exact ⟨.tuple #[v, .bool true], by simp [AV.den, AV.denL, q2, listO], by simp [Instr.lookup, run_underlying hut, Result.andThen, MapKept.run_getObj_map f4, MapKept.run_checkKey huk (keyD_is h4), MapKept.run_findKey huk q3]⟩
      | false => exact ⟨v, q2, by simp [Instr.lookup, run_underlying hut, Result.andThen, MapKept.run_getObj_map f4, MapKept.run_checkKey huk (keyD_is h4), MapKept.run_findKey huk q3]⟩
    · rename_i h4 h5
      cases h
      refine ⟨rfl, ?_⟩
      rcases findE_sound h4 f2 h5 0 with ⟨_, q3⟩ | ⟨b, v, j, e, q1, _⟩
      · cases ok with
        | true => exact ⟨.tuple #[z, .bool false], by simp [AV.den, AV.denL, listO], by simp [Instr.lookup, run_underlying hut, Result.andThen, MapKept.run_getObj_map f4, MapKept.run_checkKey huk (keyD_is h4), MapKept.run_findKey huk q3, hz]⟩
        | false => exact ⟨z, by simp [AV.den], by simp [Instr.lookup, run_underlying hut, Result.andThen, MapKept.run_getObj_map f4, MapKept.run_checkKey huk (keyD_is h4), MapKept.run_findKey huk q3, hz]⟩
      · cases q1
    · cases h
  · rename_i l _ _ _ _ _ _ h1 h2 h3
    obtain ⟨g, cap, o, f1, f3, f4⟩ := hh.holds i _ h1
    rw [f1] at e1; cases e1; cases e2
    have f3 : o = .map (setEnts 0 l).toArray l.length := f3
    subst f3
    have huk := (hv kt _ (look_mem h2)).1
    have hz := tv_zero (w := w) hv h3
    simp only at hz
    split at h
    · rename_i s
      cases h
      refine ⟨rfl, ?_⟩
      have q3 := findSet (s := s) l 0 0
      have hm := memS_find l s
      cases hf : l.findIdx? (fun x => decide (s = x)) with
      | some j =>
        rw [hf] at q3 hm
        rw [show memS l s = true from hm]
        cases ok with
        | true => exact ⟨.tuple #[.bool true, .bool true], by simp [AV.den, AV.denL, listO], by simp [Instr.lookup, run_underlying hut, Result.andThen, MapKept.run_getObj_map f4, MapKept.run_checkKey huk (show MapKept.IsKey .string (.string s) from trivial), MapKept.run_findKey huk q3]⟩
        | false => exact ⟨.bool true, by simp [AV.den], by simp [Instr.lookup, run_underlying hut, Result.andThen, MapKept.run_getObj_map f4, MapKept.run_checkKey huk (show MapKept.IsKey .string (.string s) from trivial), MapKept.run_findKey huk q3]⟩
      | none =>
        rw [hf] at q3 hm
        rw [show memS l s = false from hm]
        cases ok with
        | true => exact ⟨.tuple #[.bool false, .bool false], by simp [AV.den, AV.denL, listO], by simp [Instr.lookup, run_underlying hut, Result.andThen, MapKept.run_getObj_map f4, MapKept.run_checkKey huk (show MapKept.IsKey .string (.string s) from trivial), MapKept.run_findKey huk q3, hz]⟩
        | false => exact ⟨.bool false, by simp [AV.den], by simp [Instr.lookup, run_underlying hut, Result.andThen, MapKept.run_getObj_map f4, MapKept.run_checkKey huk (show MapKept.IsKey .string (.string s) from trivial), MapKept.run_findKey huk q3, hz]⟩
    · cases h
  · rename_i l _ _ _ _ _ _ h1 h2 h3
    obtain ⟨g, cap, o, f1, f3, f4⟩ := hh.holds i _ h1
    rw [f1] at e1; cases e1; cases e2
    have f3 : o = .map (isetEnts 0 l).toArray l.length := f3
    subst f3
    have huk := (hv kt _ (look_mem h2)).1
    have hz := tv_zero (w := w) hv h3
    simp only at hz
    split at h
    · rename_i s
      cases h
      refine ⟨rfl, ?_⟩
      have q3 := findISet (s := s) l 0 0
      have hm := memI_find l s
      cases hf : l.findIdx? (fun x => decide (s = x)) with
      | some j =>
        rw [hf] at q3 hm
        rw [show memI l s = true from hm]
        cases ok with
        | true => exact ⟨.tuple #[.bool true, .bool true], by simp [AV.den, AV.denL, listO], by simp [Instr.lookup, run_underlying hut, Result.andThen, MapKept.run_getObj_map f4, MapKept.run_checkKey huk (show MapKept.IsKey (.int .i64) (.int .i64 s) from rfl), MapKept.run_findKey huk q3]⟩
        | false => exact ⟨.bool true, by simp [AV.den], by simp [Instr.lookup, run_underlying hut, Result.andThen, MapKept.run_getObj_map f4, MapKept.run_checkKey huk (show MapKept.IsKey (.int .i64) (.int .i64 s) from rfl), MapKept.run_findKey huk q3]⟩
      | none =>
        rw [hf] at q3 hm
        rw [show memI l s = false from hm]
        cases ok with
        | true => exact ⟨.tuple #[.bool false, .bool false], by simp [AV.den, AV.denL, listO], by simp [Instr.lookup, run_underlying hut, Result.andThen, MapKept.run_getObj_map f4, MapKept.run_checkKey huk (show MapKept.IsKey (.int .i64) (.int .i64 s) from rfl), MapKept.run_findKey huk q3, hz]⟩
        | false => exact ⟨.bool false, by simp [AV.den], by simp [Instr.lookup, run_underlying hut, Result.andThen, MapKept.run_getObj_map f4, MapKept.run_checkKey huk (show MapKept.IsKey (.int .i64) (.int .i64 s) from rfl), MapKept.run_findKey huk q3, hz]⟩
    · cases h
  · rename_i l _ _ _ _ _ _ h1 h2 h3
    obtain ⟨g, cap, o, f1, f3, f4⟩ := hh.holds i _ h1
    rw [f1] at e1; cases e1; cases e2
    have f3 : o = .map (ixEnts 0 l).toArray l.length := f3
    subst f3
    have huk := (hv kt _ (look_mem h2)).1
    have hz := tv_zero (w := w) hv h3
    simp only at hz
    split at h
    · rename_i s
      cases h
      refine ⟨rfl, ?_⟩
      have q3 := findIx (s := s) l 0 0
      have hm := memS_find l s
      unfold ixV
      cases hf : l.findIdx? (fun x => decide (s = x)) with
      | some j =>
        rw [hf] at q3 hm
        rw [show memS l s = true from hm]
        cases ok with
        | true => exact ⟨.tuple #[.int .i64 (j : Int), .bool true], by simp [AV.den, AV.denL, listO], by simp [Instr.lookup, run_underlying hut, Result.andThen, MapKept.run_getObj_map f4, MapKept.run_checkKey huk (show MapKept.IsKey .string (.string s) from trivial), MapKept.run_findKey huk q3]⟩
        | false => exact ⟨.int .i64 (j : Int), by simp [AV.den], by simp [Instr.lookup, run_underlying hut, Result.andThen, MapKept.run_getObj_map f4, MapKept.run_checkKey huk (show MapKept.IsKey .string (.string s) from trivial), MapKept.run_findKey huk q3]⟩
      | none =>
        rw [hf] at q3 hm
        rw [show memS l s = false from hm]
        cases ok with
        | true => exact ⟨.tuple #[.int .i64 0, .bool false], by simp [AV.den, AV.denL, listO], by simp [Instr.lookup, run_underlying hut, Result.andThen, MapKept.run_getObj_map f4, MapKept.run_checkKey huk (show MapKept.IsKey .string (.string s) from trivial), MapKept.run_findKey huk q3, hz]⟩
        | false => exact ⟨.int .i64 0, by simp [AV.den], by simp [Instr.lookup, run_underlying hut, Result.andThen, MapKept.run_getObj_map f4, MapKept.run_checkKey huk (show MapKept.IsKey .string (.string s) from trivial), MapKept.run_findKey huk q3, hz]⟩
    · cases h
  · cases h

/-- A builtin without effect. -/
def builtA (tys : List (Nat × TyI)) (b : Builtin) (args : List AV) (ts : List TypeId) : Option AV :=
  match b, args, ts with
  | .len, [x], [t] => lenA tys t x
  | .cap, [.lit (.slice none 0 0)], [t] => match look t tys with
    | some ⟨.slice _, _, _, _⟩ => some (.lit (.int .i64 0))
    | _ => none
  | .complex, [.lit (.float .f64 x), .lit (.float .f64 y)], _ => some (.lit (.complex .f64 x y))
  | .real, [.lit (.complex .f64 x _)], _ => some (.lit (.float .f64 x))
  | .imag, [.lit (.complex .f64 _ y)], _ => some (.lit (.float .f64 y))
  | .min, [.lit (.int k x), .lit (.int _ y)], _ => some (.lit (.int k (if y < x then y else x)))
  | .max, [.lit (.int k x), .lit (.int _ y)], _ => some (.lit (.int k (if y > x then y else x)))
  | .min, [.lit (.int k x), .lit (.int _ y), .lit (.int _ z)], _ => some (.lit (.int k (if z < (if y < x then y else x) then z else (if y < x then y else x))))
  | .max, [.lit (.int k x), .lit (.int _ y), .lit (.int _ z)], _ => some (.lit (.int k (if z > (if y > x then y else x) then z else (if y > x then y else x))))
  | _, _, _ => none

def isDefer : Op → Bool
  | .defer _ => true
  | _ => false
def pureOp (cfg : Cfg) (T : List (Nat × AV)) (H : List (Nat × Chunk)) (hi : Option Nat) (cu : Option Custom) (o : Oper) (acc : List Cd) : Option (AV × List Cd) :=
  match cu with
  | some c => match isDefer o.op with
    | true => none
    | false => match evL cfg T o.op.operands.toList acc with
      | some (l, acc1) => match c.run o l with | some r => some (r, acc1) | none => none
      | none => none
  | none => match o.op with
    | .move x | .assign x => ev cfg T acc x
    | .pick c x y => match ev cfg T acc c with
      | some (.lit (.bool b), acc1) => match evIf cfg T (b = true) acc1 x with
        | some (vx, acc2) => match evIf cfg T (b = false) acc2 y with
          | some (vy, acc3) => match pickA b vx vy with
            | some r => some (r, acc3)
            | none => none
          | none => none
        | none => none
      | _ => none
    | .load t x => match ev cfg T acc x with
      | some (v, acc1) => loadA cfg.tys H t v acc1
      | none => none
    | .nilCheck x => match ev cfg T acc x with
      | some (.ptr i e sz j, acc1) => some (.ptr i e sz j, acc1)
      | some (.fn f l m, acc1) => some (.fn f l m, acc1)
      | _ => none
    | .binOp op t x y _ => match ev cfg T acc x with
      | some (vx, acc1) => match ev cfg T acc1 y with
        | some (vy, acc2) => binA cfg.tys op t vx vy acc2
        | none => none
      | none => none
    | .unOp op _ x => match ev cfg T acc x with
      | some (v, acc1) => unA op v acc1
      | none => none
    | .convert s d x => match ev cfg T acc x with
      | some (v, acc1) => convA cfg.tys s d v acc1
      | none => none
    | .fieldAddr s x f => match ev cfg T acc x with
      | some (v, acc1) => fieldA cfg.tys s v f acc1
      | none => none
    | .indexAddr t x i => match ev cfg T acc x with
      | some (vx, acc1) => match ev cfg T acc1 i with
        | some (vi, acc2) => indexA cfg.tys H hi t vx vi acc2
        | none => none
      | none => none
    | .extract x n => match ev cfg T acc x with
      | some (.tup l, acc1) => match nth l n with
        | some r => some (r, acc1)
        | none => none
      | _ => none
    | .build t parts => buildA cfg T t parts.toList acc
    | .lookup t x k ok => match ev cfg T acc x with
      | some (vx, acc1) => match ev cfg T acc1 k with
        | some (vk, acc2) => lookA cfg.tys H t vx vk ok acc2
        | none => none
      | none => none
    | .makeFunc (.func f) first cap => match evL cfg T first.toList acc with
      | some (l, acc1) => match evL cfg T cap.toList acc1 with
        | some (m, acc2) => some (.fn f l m, acc2)
        | none => none
      | none => none
    | .call ⟨.builtin b, args, ts⟩ => match evL cfg T args.toList acc with
      | some (l, acc1) => match builtA cfg.tys b l ts.toList with
        | some r => some (r, acc1)
        | none => none
      | none => none
    | _ => none

section
variable {cfg : Cfg} {P : Program} {T : List (Nat × AV)} {H : List (Nat × Chunk)} {ρ : Env} {a : Act} {w : World}

theorem evIf_acc {p : Prop} {acc acc' : List Cd} {x : Operand} {r : AV} (h : evIf cfg T p acc x = some (r, acc')) (hc : All acc') : All acc := by
  cases x with
  | tmp t =>
    simp only [evIf] at h
    split at h
    · cases h; exact hc.2
    · cases h; exact hc
    · cases h
  | const v => cases h; exact hc
  | func f => cases h
  | global g => cases h


theorem intBin_acc {op : BinOp} {k : IntKind} {x y : Int} {acc acc' : List Cd} {r : AV} (h : intBin op k x y acc = some (r, acc')) (hc : All acc') : All acc := by
  unfold intBin at h
  (repeat' split at h) <;> first | (cases h; done) | (cases h; first | exact hc | exact hc.2 | exact hc.2.2)
theorem strBin_acc {op : BinOp} {x y : ByteArray} {acc acc' : List Cd} {r : AV} (h : strBin op x y acc = some (r, acc')) (hc : All acc') : All acc := by
  unfold strBin at h
  (repeat' split at h) <;> first | (cases h; done) | (cases h; first | exact hc | exact hc.2 | exact hc.2.2)
theorem fltBin_acc {op : BinOp} {k : FloatKind} {x y : Nat} {acc acc' : List Cd} {r : AV} (h : fltBin op k x y acc = some (r, acc')) (hc : All acc') : All acc := by
  unfold fltBin at h
  (repeat' split at h) <;> first | (cases h; done) | (cases h; first | exact hc | exact hc.2 | exact hc.2.2)
theorem binA_acc {tys : List (Nat × TyI)} {op : BinOp} {xt : TypeId} {x y r : AV} {acc acc' : List Cd} (h : binA tys op xt x y acc = some (r, acc')) (hc : All acc') : All acc := by
  unfold binA at h
  (repeat' split at h) <;> first | (exact fltBin_acc h hc) | (exact intBin_acc h hc) | (exact strBin_acc h hc) | (cases h; done) | (cases h; exact hc)
theorem unA_acc {op : UnOp} {x r : AV} {acc acc' : List Cd} (h : unA op x acc = some (r, acc')) (hc : All acc') : All acc := by
  unfold unA at h
  (repeat' split at h) <;> first | (cases h; done) | (cases h; first | exact hc | exact hc.2 | exact hc.2.2)
theorem convA_acc {tys : List (Nat × TyI)} {s d : TypeId} {x r : AV} {acc acc' : List Cd} (h : convA tys s d x acc = some (r, acc')) (hc : All acc') : All acc := by
  unfold convA at h
  (repeat' split at h) <;> first | (cases h; done) | (cases h; first | exact hc | exact hc.2 | exact hc.2.2)
theorem fieldA_acc {tys : List (Nat × TyI)} {s : TypeId} {f : Nat} {x r : AV} {acc acc' : List Cd} (h : fieldA tys s x f acc = some (r, acc')) (hc : All acc') : All acc := by
  unfold fieldA at h
  (repeat' split at h) <;> first | (cases h; done) | (cases h; first | exact hc | exact hc.2 | exact hc.2.2)
theorem idx_acc {h : Option Nat} {q : Int} {acc acc' : List Cd} {e : Nat} (he : idx h q acc = (e, acc')) (hc : All acc') : All acc := (idx_sound he hc).1
theorem indexA_acc {tys : List (Nat × TyI)} {H : List (Nat × Chunk)} {hn : Option Nat} {t : TypeId} {x ix r : AV} {acc acc' : List Cd} (h : indexA tys H hn t x ix acc = some (r, acc')) (hc : All acc') : All acc := by
  unfold indexA at h
  (repeat' split at h) <;> first | (cases h; done) | (cases h; first | exact idx_acc (by assumption) hc.2.2 | exact idx_acc (by assumption) hc.2)
theorem cellA_acc {c : Cont} {e sz j : Nat} {acc acc' : List Cd} {r : AV} (h : cellA c e sz j acc = some (r, acc')) (hc : All acc') : All acc := by
  unfold cellA at h
  (repeat' split at h) <;> first | (cases h; done) | (cases h; first | exact hc | exact hc.2 | exact hc.2.2)
theorem chunkCell_acc {c : Chunk} {e sz j : Nat} {acc acc' : List Cd} {r : AV} (h : chunkCell c e sz j acc = some (r, acc')) (hc : All acc') : All acc := by
  unfold chunkCell at h
  (repeat' split at h) <;> first | (cases h; done) | (exact (cellA_acc h hc).2) | (cases h; exact hc) | (cases h; exact hc.2)
theorem all_tail {c : Cd} {l : List Cd} (h : All (c :: l)) : All l := h.2
theorem chunkCells_acc {c : Chunk} {e sz : Nat} : ∀ {n j : Nat} {acc acc' : List Cd} {l : List AV}, chunkCells c e sz n j acc = some (l, acc') → All acc' → All acc
  | 0, j, acc, acc', l, h, hc => by cases h; exact hc
  | n + 1, j, acc, acc', l, h, hc => by
    simp only [chunkCells] at h
    split at h
    · split at h
      · rename_i h1 _ _ _ h2
        cases h
        exact chunkCell_acc h1 (chunkCells_acc h2 hc)
      · cases h
    · cases h
theorem loadA_acc {tys : List (Nat × TyI)} {H : List (Nat × Chunk)} {t : TypeId} {x r : AV} {acc acc' : List Cd} (h : loadA tys H t x acc = some (r, acc')) (hc : All acc') : All acc := by
  unfold loadA at h
  (repeat' split at h) <;> first | (cases h; done) | (exact chunkCell_acc h hc) | (cases h; exact chunkCells_acc (by assumption) hc) | (cases h; exact all_tail (chunkCells_acc (by assumption) hc)) | (cases h; exact all_tail (chunkCell_acc (by assumption) hc))
theorem evL_acc {cfg : Cfg} {T : List (Nat × AV)} : ∀ {l : List Operand} {acc acc' : List Cd} {r : List AV}, evL cfg T l acc = some (r, acc') → All acc' → All acc
  | [], acc, acc', r, h, hc => by cases h; exact hc
  | x :: l, acc, acc', r, h, hc => by
    simp only [evL] at h
    split at h
    · split at h
      · rename_i h1 _ _ _ h2
        cases h
        exact ev_acc h1 (evL_acc h2 hc)
      · cases h
    · cases h

theorem lenA_sound {tys : List (Nat × TyI)} (hv : TValid P tys) {t : TypeId} {x r : AV} {vx : Value} (h : lenA tys t x = some r) (hx : x.den ρ = some vx) (ty : TypeId) :
    ∃ v, r.den ρ = some v ∧ (Builtin.len_ #[t] ty #[vx]).run P w = .ok v w := by
  unfold lenA at h
  split at h
  · rename_i el _ _ _ i n h1
    cases h
    simp only [AV.den, Option.map_eq_some_iff] at hx
    obtain ⟨L, e1, rfl⟩ := hx
    have hu := tv_under (w := w) hv h1
    simp only at hu
    exact ⟨_, by simp [AV.den]; rfl, by simp [Builtin.len_, hu, goInt]⟩
  · rename_i el _ _ _ i e n h1
    cases h
    simp only [AV.den, Option.bind_eq_some_iff, Tb.den, Option.map_eq_some_iff] at hx
    obtain ⟨L, e1, r, e2, rfl⟩ := hx
    have hu := tv_under (w := w) hv h1
    simp only at hu
    exact ⟨_, by simp [AV.den]; rfl, by simp [Builtin.len_, hu, goInt]⟩
  · rename_i el _ _ _ ad n cap h1
    cases h
    simp only [AV.den, Option.some.injEq] at hx
    subst hx
    have hu := tv_under (w := w) hv h1
    simp only at hu
    exact ⟨_, by simp [AV.den]; rfl, by simp [Builtin.len_, hu, goInt]⟩
  · rename_i _ _ _ s h1
    cases h
    simp only [AV.den, Option.some.injEq] at hx
    subst hx
    have hu := tv_under (w := w) hv h1
    simp only at hu
    exact ⟨_, by simp [AV.den]; rfl, by simp [Builtin.len_, hu, goInt]⟩
  · rename_i n el _ _ _ h1
    cases h
    have hu := tv_under (w := w) hv h1
    simp only at hu
    exact ⟨_, by simp [AV.den]; rfl, by simp [Builtin.len_, hu, goInt]⟩
  · cases h

theorem builtA_sound {tys : List (Nat × TyI)} (hv : TValid P tys) {b : Builtin} {l : List AV} {ts : List TypeId} {r : AV} {vs : List Value} (h : builtA tys b l ts = some r) (hx : AV.denL ρ l = some vs) (ty : TypeId) (cs : Array Bool) :
    ∃ v, r.den ρ = some v ∧ (builtin b ts.toArray ty cs vs.toArray).run P w = .ok (.value v) w := by
  unfold builtA at h
  split at h
  · rename_i x t
    simp only [AV.denL] at hx
    obtain ⟨v, us, h1, h2, rfl⟩ := listO_some hx
    cases h2
    obtain ⟨u, h3, h4⟩ := lenA_sound (w := w) hv h h1 ty
    exact ⟨u, h3, by simp [builtin, h4]⟩
  · rename_i t
    split at h
    · rename_i h1
      cases h
      simp only [AV.denL, AV.den, listO, Option.some.injEq] at hx
      subst hx
      have hu := (hv t _ (look_mem h1)).1
      exact ⟨.int .i64 0, by simp [AV.den], by simp [builtin, Builtin.cap_, run_underlying hu, goInt]⟩
    · cases h
  · cases h
    simp only [AV.denL, AV.den, listO, Option.some.injEq] at hx
    subst hx
    exact ⟨_, rfl, rfl⟩
  · cases h
    simp only [AV.denL, AV.den, listO, Option.some.injEq] at hx
    subst hx
    exact ⟨_, rfl, rfl⟩
  · cases h
    simp only [AV.denL, AV.den, listO, Option.some.injEq] at hx
    subst hx
    exact ⟨_, rfl, rfl⟩
  · cases h
    simp only [AV.denL, AV.den, listO, Option.some.injEq] at hx
    subst hx
    exact ⟨_, rfl, rfl⟩
  · cases h
    simp only [AV.denL, AV.den, listO, Option.some.injEq] at hx
    subst hx
    exact ⟨_, rfl, rfl⟩
  · cases h
    simp only [AV.denL, AV.den, listO, Option.some.injEq] at hx
    subst hx
    exact ⟨_, rfl, rfl⟩
  · cases h
    simp only [AV.denL, AV.den, listO, Option.some.injEq] at hx
    subst hx
    exact ⟨_, rfl, rfl⟩
  · cases h

theorem arr_map (l : Array Operand) (f : Operand → Value) {vs : List Value} (h : l.toList.map f = vs) : l.map f = vs.toArray := by
  apply Array.toList_inj.1
  simpa using h

set_option maxHeartbeats 1000000 in
theorem pureOp_nd {hi : Option Nat} {cu : Option Custom} {o : Oper} {acc acc' : List Cd} {r : AV} (h : pureOp cfg T H hi cu o acc = some (r, acc')) : ∀ c, o.op ≠ .defer c := by
  intro c hc
  unfold pureOp at h
  cases cu with
  | some x => simp only [hc, isDefer] at h; cases h
  | none => simp only [hc] at h; cases h
theorem pureOp_sound (hk : Know cfg P (fun k => look k T) (fun k => look k H) ρ a w) {hi : Option Nat} {cu : Option Custom} (hcu : ∀ c, cu = some c → c.ok P) {o : Oper} {acc acc' : List Cd} {r : AV}
    (h : pureOp cfg T H hi cu o acc = some (r, acc')) (hc : All acc') : All acc ∧ ∃ v, r.den ρ = some v ∧ (execOp a.eval o).run P w = .ok (.value v) w := by
  unfold pureOp at h
  split at h
  · rename_i c
    split at h
    · cases h
    split at h
    · rename_i l acc1 h1
      split at h
      · rename_i r' hr
        cases h
        obtain ⟨h2, vs, h3, h4⟩ := evL_sound hk h1 hc
        obtain ⟨v, h5, h6⟩ := hcu c rfl o l _ hr ρ w a.eval vs h3 h4
        exact ⟨h2, v, h5, h6⟩
      · cases h
    · cases h
  · split at h
    · rename_i x ho
      obtain ⟨h1, v, h2, h3⟩ := ev_sound hk h hc
      exact ⟨h1, v, h2, by simp [execOp, ho, h3]⟩
    · rename_i x ho
      obtain ⟨h1, v, h2, h3⟩ := ev_sound hk h hc
      exact ⟨h1, v, h2, by simp [execOp, ho, h3]⟩
    · rename_i c x y ho
      split at h
      · rename_i b acc1 h1
        split at h
        · rename_i vx acc2 h2
          split at h
          · rename_i vy acc3 h3
            split at h
            · rename_i r' h4
              cases h
              obtain ⟨hc2, hy⟩ := evIf_sound hk h3 hc
              obtain ⟨hc1, hx⟩ := evIf_sound hk h2 hc2
              obtain ⟨hc0, v, h5, h6⟩ := ev_sound hk h1 hc1
              simp only [AV.den, Option.some.injEq] at h5
              subst h5
              refine ⟨hc0, _, pickA_sound h4 (vx := a.eval x) (vy := a.eval y) (fun e => ?_) (fun e => ?_), by simp [execOp, ho, h6, asBool]⟩
              · obtain ⟨u, e1, e2⟩ := hx e; rw [e2]; exact e1
              · obtain ⟨u, e1, e2⟩ := hy e; rw [e2]; exact e1
            · cases h
          · cases h
        · cases h
      · cases h
    · rename_i t x ho
      split at h
      · rename_i v acc1 h1
        obtain ⟨h2, u, h3, h4⟩ := ev_sound hk h1 (loadA_acc h hc)
        obtain ⟨_, u', h5, h6⟩ := loadA_sound hk.tv hk.heap h hc h3
        exact ⟨h2, u', h5, by simp [execOp, ho, h4, h6]⟩
      · cases h
    · rename_i x ho
      split at h
      · rename_i i e sz j acc1 h1
        cases h
        obtain ⟨h2, u, h3, h4⟩ := ev_sound hk h1 hc
        refine ⟨h2, u, h3, ?_⟩
        simp only [AV.den, Option.bind_eq_some_iff, Option.map_eq_some_iff] at h3
        obtain ⟨L, e1, ad, e2, rfl⟩ := h3
        simp [execOp, ho, h4]
      · rename_i f l m acc1 h1
        cases h
        obtain ⟨h2, u, h3, h4⟩ := ev_sound hk h1 hc
        refine ⟨h2, u, h3, ?_⟩
        simp only [AV.den, Option.bind_eq_some_iff, Option.map_eq_some_iff] at h3
        obtain ⟨x', e1, y', e2, rfl⟩ := h3
        simp [execOp, ho, h4]
      · cases h
    · rename_i op t x y yt ho
      split at h
      · rename_i vx acc1 h1
        split at h
        · rename_i vy acc2 h2
          have hc2 := binA_acc h hc
          obtain ⟨hc1, u2, h5, h6⟩ := ev_sound hk h2 hc2
          obtain ⟨hc0, u1, h3, h4⟩ := ev_sound hk h1 hc1
          obtain ⟨_, v, h7, h8⟩ := binA_sound (w := w) hk.tv h hc h3 h5
          have h9 := h8 x y
          refine ⟨hc0, v, h7, ?_⟩
          simp only [Sem.run_bind] at h9
          simp only [execOp, ho, h4, h6, Sem.run_bind, h9, Result.andThen_ok, Sem.run_pure]
        · cases h
      · cases h
    · rename_i op t x ho
      split at h
      · rename_i v acc1 h1
        obtain ⟨h2, u, h3, h4⟩ := ev_sound hk h1 (unA_acc h hc)
        obtain ⟨_, u', h5, h6⟩ := unA_sound (P := P) (w := w) h hc h3
        exact ⟨h2, u', h5, by simp [execOp, ho, h4, h6]⟩
      · cases h
    · rename_i s d x ho
      split at h
      · rename_i v acc1 h1
        obtain ⟨h2, u, h3, h4⟩ := ev_sound hk h1 (convA_acc h hc)
        obtain ⟨_, u', h5, h6⟩ := convA_sound (w := w) hk.tv h hc h3
        exact ⟨h2, u', h5, by simp [execOp, ho, h4, h6]⟩
      · cases h
    · rename_i s x f ho
      split at h
      · rename_i v acc1 h1
        obtain ⟨h2, u, h3, h4⟩ := ev_sound hk h1 (fieldA_acc h hc)
        obtain ⟨_, u', h5, h6⟩ := fieldA_sound (w := w) hk.tv h hc h3
        exact ⟨h2, u', h5, by simp [execOp, ho, h4, h6]⟩
      · cases h
    · rename_i t x i ho
      split at h
      · rename_i vx acc1 h1
        split at h
        · rename_i vy acc2 h2
          have hc2 := indexA_acc h hc
          obtain ⟨hc1, u2, h5, h6⟩ := ev_sound hk h2 hc2
          obtain ⟨hc0, u1, h3, h4⟩ := ev_sound hk h1 hc1
          obtain ⟨_, v, h7, h8⟩ := indexA_sound hk.tv hk.heap h hc h3 h5
          exact ⟨hc0, v, h7, by simp [execOp, ho, h4, h6, h8]⟩
        · cases h
      · cases h
    · rename_i x n ho
      split at h
      · rename_i l acc1 h1
        split at h
        · rename_i r' h2
          cases h
          obtain ⟨h3, u, h4, h5⟩ := ev_sound hk h1 hc
          simp only [AV.den, Option.map_eq_some_iff] at h4
          obtain ⟨vs, h6, rfl⟩ := h4
          obtain ⟨v, h7, h8⟩ := denL_at' h6 h2
          exact ⟨h3, v, h7, by simp [execOp, ho, h5, Instr.extract, h8]⟩
        · cases h
      · cases h
    · rename_i t parts ho
      obtain ⟨h1, v, h2, h3⟩ := buildA_sound hk h hc
      exact ⟨h1, v, h2, by simp only [execOp, ho, Sem.run_bind, h3, Result.andThen_ok, Sem.run_pure]⟩
    · rename_i t x k ok ho
      split at h
      · rename_i vx acc1 h1
        split at h
        · rename_i vk acc2 h2
          have hc2 : All acc2 := by
            unfold lookA at h
            repeat' split at h
            all_goals first | (cases h; done) | (cases h; exact hc)
          obtain ⟨hc1, u2, h5, h6⟩ := ev_sound hk h2 hc2
          obtain ⟨hc0, u1, h3, h4⟩ := ev_sound hk h1 hc1
          obtain ⟨_, v, h7, h8⟩ := lookA_sound hk.tv hk.heap h h3 h5
          exact ⟨hc0, v, h7, by simp [execOp, ho, h4, h6, h8]⟩
        · cases h
      · cases h
    · rename_i f first cap ho
      split at h
      · rename_i l acc1 h1
        split at h
        · rename_i m acc2 h2
          cases h
          obtain ⟨hc1, us, h5, h6⟩ := evL_sound hk h2 hc
          obtain ⟨hc0, vs, h3, h4⟩ := evL_sound hk h1 hc1
          refine ⟨hc0, .func (.func f) vs.toArray us.toArray, by simp [AV.den, h3, h5], ?_⟩
          simp only [execOp, ho, arr_map _ _ h4, arr_map _ _ h6]
          rfl
        · cases h
      · cases h
    · rename_i b args ts ho
      split at h
      · rename_i l acc1 h1
        split at h
        · rename_i r' h2
          cases h
          obtain ⟨hc0, vs, h3, h4⟩ := evL_sound hk h1 hc
          obtain ⟨v, h5, h6⟩ := builtA_sound (w := w) hk.tv h2 h3 o.type (args.map fun | .const _ => true | _ => false)
          refine ⟨hc0, v, h5, ?_⟩
          simp only [execOp, ho, resolve, invoke, Sem.run_bind, Sem.run_pure, Result.andThen_ok, arr_map _ _ h4]
          exact h6
        · cases h
      · cases h
    · cases h
end
end Go.Sym

namespace Go.Sym
open Go.RowKit

/-- Between two worlds new chunks have come, and nothing that was seen has turned. -/
structure NewC (V : Nat → Prop) (ρ ρ' : Env) (H N : HMap) (w w' : World) : Prop where
  le : Env.le ρ ρ'
  only : ∀ i, ¬ V i → ρ' i = ρ i
  new : ∀ i c, N i = some c → V i
  below : Below w.heap.size w w'
  holds : ∀ i c, N i = some c → c.holds ρ' i w'
  fresh : ∀ i c, N i = some c → ∀ g, c.occ ρ' i g → w.heap.size ≤ g ∨ (c.own = false ∧ ∃ j d, H j = some d ∧ d.own = false ∧ d.occ ρ j g)
  apart : ∀ i c, N i = some c → c.own = true → ∀ j d, N j = some d → j ≠ i → ∀ g, c.occ ρ' i g → ¬ d.occ ρ' j g

def orMap (N H : HMap) : HMap := fun i => (N i).or (H i)

theorem Heap.add {V : Nat → Prop} {ρ ρ' : Env} {H N : HMap} {w w' : World} (h : Heap ρ H w) (n : NewC V ρ ρ' H N w w') : Heap ρ' (orMap N H) w' := by
  have hold := (h.below n.below).mono n.le
  have cases : ∀ {i c}, orMap N H i = some c → (N i = some c) ∨ (N i = none ∧ H i = some c) := by
    intro i c e
    unfold orMap at e
    cases hn : N i with
    | none => rw [hn] at e; exact .inr ⟨rfl, by simpa using e⟩
    | some d => rw [hn] at e; exact .inl (by simpa using e)
  have lt : ∀ {i c g}, H i = some c → c.occ ρ' i g → g < w.heap.size := fun {i c g} e ho => h.lt ⟨i, c, e, Chunk.occ_mono n.le (h.holds i c e) ho⟩
  refine ⟨fun i c e => ?_, fun i c e ho j d e' hne g hg hg' => ?_⟩
  · rcases cases e with e | ⟨_, e⟩
    · exact n.holds i c e
    · exact hold.holds i c e
  · rcases cases e with e | ⟨_, e⟩ <;> rcases cases e' with e' | ⟨_, e'⟩
    · exact n.apart i c e ho j d e' hne g hg hg'
    · have := lt e' hg'
      rcases n.fresh i c e g hg with h1 | ⟨h1, _⟩
      · omega
      · rw [ho] at h1; cases h1
    · have := lt e hg
      rcases n.fresh j d e' g hg' with h1 | ⟨_, k, d', h2, h3, h4⟩
      · omega
      · refine h.apart i c e ho k d' h2 ?_ g (Chunk.occ_mono n.le (h.holds i c e) hg) h4
        rintro rfl
        rw [e] at h2; cases h2
        rw [ho] at h3; cases h3
    · exact hold.apart i c e ho j d e' hne g hg hg'

theorem owned_add {V : Nat → Prop} {ρ ρ' : Env} {H N : HMap} {w w' : World} (h : Heap ρ H w) (n : NewC V ρ ρ' H N w w') {g : Nat} (hg : Owned ρ' (orMap N H) g) : w.heap.size ≤ g ∨ Owned ρ H g := by
  obtain ⟨i, c, e, ho, hg⟩ := hg
  unfold orMap at e
  cases hn : N i with
  | none =>
    rw [hn] at e
    have e : H i = some c := by simpa using e
    exact .inr ⟨i, c, e, ho, Chunk.occ_mono n.le (h.holds i c e) hg⟩
  | some d =>
    rw [hn] at e
    have e : d = c := by simpa using e
    subst e
    rcases n.fresh i d hn g hg with h1 | ⟨h1, _⟩
    · exact .inl h1
    · rw [ho] at h1; cases h1

/-- One new chunk. -/
def oneMap (k : Nat) (c : Chunk) : HMap := fun i => if i = k then some c else none
def envSet (ρ : Env) (k : Nat) (L : Loc) : Env := fun i => if i = k then some L else ρ i
theorem envSet_same (ρ : Env) (k : Nat) (L : Loc) : envSet ρ k L k = some L := by simp [envSet]
theorem envSet_other (ρ : Env) {i k : Nat} (L : Loc) (h : i ≠ k) : envSet ρ k L i = ρ i := by simp [envSet, h]
theorem envSet_le {ρ : Env} {k : Nat} {L : Loc} (h : ρ k = none) : Env.le ρ (envSet ρ k L) := by
  intro i L' e
  by_cases hi : i = k
  · subst hi; rw [h] at e; cases e
  · rw [envSet_other _ _ hi]; exact e

theorem newC_one {ρ : Env} {H : HMap} {w w' : World} {k : Nat} {c : Chunk} {L : Loc} (hk : ρ k = none) (hb : Below w.heap.size w w') (hc : c.holds (envSet ρ k L) k w')
    (hf : ∀ g, c.occ (envSet ρ k L) k g → w.heap.size ≤ g ∨ (c.own = false ∧ ∃ j d, H j = some d ∧ d.own = false ∧ d.occ ρ j g)) : NewC (· = k) ρ (envSet ρ k L) H (oneMap k c) w w' := by
  refine ⟨envSet_le hk, fun i hi => envSet_other _ _ hi, fun i d e => ?_, hb, fun i d e => ?_, fun i d e => ?_, fun i d e ho j d' e' hne => ?_⟩
  · by_cases h : i = k
    · exact h
    · simp [oneMap, h] at e
  all_goals
    by_cases h : i = k
    case neg => simp [oneMap, h] at e
    subst h
    simp only [oneMap, if_true, Option.some.injEq] at e
    subst e
  · exact hc
  · exact hf
  · simp [oneMap, hne] at e'

/-- Zeros. -/
def zeroCont (z : Value) (n sz : Nat) : Cont :=
  match z with
  | .int k q => .ints k (List.replicate n q)
  | .bool b => .bools (List.replicate n b)
  | z => .gen n sz fun _ => z.cells.toList

theorem madeCells_at (cells : Array Value) (n q : Nat) (hq : q < n) : (madeCells cells n).toList[q]? = some cells[q % cells.size]! := by
  simp [madeCells, hq]
theorem madeCells_len (cells : Array Value) (n : Nat) : (madeCells cells n).toList.length = n := by simp [madeCells]

theorem zeroCont_den (ρ : Env) (z : Value) (n cap sz : Nat) (hs : z.cells.size = sz) (hsz : 0 < sz) (hn : n ≤ cap) : AV.denL ρ (zeroCont z n sz).cells = some ((madeCells z.cells (cap * sz)).toList.take (n * sz)) := by
  have hle : n * sz ≤ cap * sz := Nat.mul_le_mul_right _ hn
  have one : ∀ {l : List Value}, l.length = n * sz → (∀ q, q < n * sz → l[q]? = some z.cells[q % z.cells.size]!) → l = (madeCells z.cells (cap * sz)).toList.take (n * sz) := by
    intro l hl h
    refine List.ext_getElem? fun q => ?_
    by_cases hq : q < n * sz
    · rw [h q hq, List.getElem?_take_of_lt hq, madeCells_at _ _ _ (by omega)]
    · rw [List.getElem?_eq_none (by omega), List.getElem?_eq_none (by simp; omega)]
  cases z with
  | int k x =>
    have e1 : sz = 1 := by simpa [Value.cells] using hs.symm
    subst e1
    have : (zeroCont (.int k x) n 1).cells = (List.replicate n (Value.int k x)).map AV.lit := by simp [zeroCont, Cont.cells]
    rw [this, denL_lits]
    congr 1
    refine one (by simp) fun q hq => ?_
    simp [show q < n by omega, Value.cells, Nat.mod_one]
  | bool b =>
    have e1 : sz = 1 := by simpa [Value.cells] using hs.symm
    subst e1
    have : (zeroCont (.bool b) n 1).cells = (List.replicate n (Value.bool b)).map AV.lit := by simp [zeroCont, Cont.cells]
    rw [this, denL_lits]
    congr 1
    refine one (by simp) fun q hq => ?_
    simp [show q < n by omega, Value.cells, Nat.mod_one]
  | _ =>
    simp only [zeroCont, Cont.cells]
    rw [show (fun q => AV.lit ((Array.toList (Value.cells _)).getD (q % sz) undef)) = AV.lit ∘ (fun q => (Array.toList (Value.cells _)).getD (q % sz) undef) from rfl, ← List.map_map, denL_lits]
    congr 1
    refine one (by simp) fun q hq => ?_
    have h2 : q % sz < sz := Nat.mod_lt _ hsz
    rw [hs]
    simp [hq, List.getD, h2, hs]

def repL {α : Type} : Nat → List α → List α
  | 0, _ => []
  | n + 1, l => l ++ repL n l

def sliceC (c : Cont) (lo hi sz : Nat) : Option Cont :=
  match c with
  | .ints k l => match Nat.beq sz 1 with | true => some (.ints k ((l.drop lo).take (hi - lo))) | false => none
  | .bools l => match Nat.beq sz 1 with | true => some (.bools ((l.drop lo).take (hi - lo))) | false => none
  | .gen _ sz' get => match Nat.beq sz sz' with | true => some (.gen (hi - lo) sz fun k => get (lo + k)) | false => none
  | .exp l => some (.exp ((l.drop (lo * sz)).take ((hi - lo) * sz)))
  | .jbs j _ sz' hd len => match lo, Nat.beq sz sz' with | 0, true => some (.jbs j hi sz hd len) | _, _ => none
  | _ => none

/-- The bound of a slice: the number that stands there, or the one that is meant. -/
def bound (h : Option Nat) (dflt : Nat) (v : Option AV) (acc : List Cd) : Option (Nat × List Cd) :=
  match v with
  | none => some (dflt, acc)
  | some (.lit (.int _ q)) => some (idx h q acc)
  | _ => none

def evO (cfg : Cfg) (T : List (Nat × AV)) (x : Option Operand) (acc : List Cd) : Option (Option AV × List Cd) :=
  match x with
  | none => some (none, acc)
  | some x => match ev cfg T acc x with
    | some (v, acc1) => some (some v, acc1)
    | none => none

structure Hint where
  i1 : Option Nat := none
  i2 : Option Nat := none
  b : Option Bool := none

/-- A slice of no elements that is only read. -/
def bareB (h : Hint) (len : Nat) : Bool := match h.b with | some true => Nat.beq len 0 | _ => false
theorem bareB_eq {h : Hint} {len : Nat} (e : bareB h len = true) : len = 0 := by
  unfold bareB at e
  split at e
  · exact Nat.eq_of_beq_eq_true e
  · cases e
def extOp (cfg : Cfg) (T : List (Nat × AV)) (H : List (Nat × Chunk)) (nx : Nat) (h : Hint) (o : Oper) (acc : List Cd) : Option (AV × Chunk × List Cd) :=
  match o.op with
  | .alloc t => match look t cfg.tys with
    | some ti => match cellsOf (.lit ti.zero) with
      | some zs => some (.ptr nx 0 0 0, .blk t zs, acc)
      | none => none
    | none => none
  | .box t x => match ev cfg T acc x with
    | some (v, acc1) => match cellsOf v with
      | some cs => some (.ptr nx 0 0 0, .blk t cs, acc1)
      | none => none
    | none => none
  | .buildSlice t len parts => match look t cfg.tys with
    | some ⟨.slice e, _, _, _⟩ => match look e cfg.tys with
      | some ti => match Nat.ble (len * ti.size) 16777216 && Nat.blt 0 ti.size, cellsOf (.lit ti.zero) with
        | true, some zs => match Nat.beq zs.length ti.size with
          | true => match fillA cfg T (fun i => some (i * ti.size, ti.size)) parts.toList (repL len zs) acc with
            | some (cs, acc1) => match bareB h len with
              | true => some (.sl nx 0, .ro 0 0 (.exp []), acc1)
              | false => some (.sl nx len, .row e len ti.size (.exp cs), acc1)
            | none => none
          | false => none
        | _, _ => none
      | none => none
    | _ => none
  | .makeSlice t l c => match look t cfg.tys with
    | some ⟨.slice e, _, _, _⟩ => match look e cfg.tys with
      | some ti => match Nat.beq ti.zero.cells.size ti.size && Nat.blt 0 ti.size && Nat.ble ti.bytes 16777216, ev cfg T acc l with
        | true, some (.lit (.int _ x), acc1) => match ev cfg T acc1 c with
          | some (.lit (.int _ y), acc2) => match idx h.i1 x acc2 with
            | (n, acc3) => some (.sl nx n, .row e n ti.size (zeroCont ti.zero n ti.size), cd (x ≤ y ∧ y ≤ 1048576) :: acc3)
          | _ => none
        | _, _ => none
      | none => none
    | _ => none
  | .slice t x lo hi none => match look t cfg.tys, ev cfg T acc x with
    | some ⟨.slice e, _, _, _⟩, some (.sl i n, acc1) => match look i H, look e cfg.tys with
      | some (.ro m sz c), some ti => match Nat.beq ti.size sz, evO cfg T lo acc1 with
        | true, some (vl, acc2) => match evO cfg T hi acc2 with
          | some (vh, acc3) => match bound h.i1 0 vl acc3 with
            | some (l, acc4) => match bound h.i2 n vh acc4 with
              | some (u, acc5) => match sliceC c l u sz with
                | some c' => some (.sl nx (u - l), .ro (u - l) sz c', cd (l ≤ u ∧ u ≤ n ∧ n ≤ m) :: acc5)
                | none => none
              | none => none
            | none => none
          | none => none
        | _, _ => none
      | _, _ => none
    | some ⟨.slice e, _, _, _⟩, some (.tb i (.row r n), acc1) => match look i H, look e cfg.tys with
      | some (.fam false _ sz m len c), some ti => match Nat.beq ti.size sz, evO cfg T lo acc1 with
        | true, some (vl, acc2) => match evO cfg T hi acc2 with
          | some (vh, acc3) => match bound h.i1 0 vl acc3 with
            | some (l, acc4) => match bound h.i2 n vh acc4 with
              | some (u, acc5) => match sliceC (c r) l u sz with
                | some c' => some (.sl nx (u - l), .ro (u - l) sz c', cd (l ≤ u ∧ u ≤ n ∧ n ≤ len r) :: acc5)
                | none => none
              | none => none
            | none => none
          | none => none
        | _, _ => none
      | _, _ => none
    | some ⟨.array n e, _, _, _⟩, some (.ptr i 0 _ 0, acc1) => match lo, hi, look i H, look e cfg.tys with
      | none, none, some (.rb _ l), some ti => match Nat.beq l.length (n * ti.size) && Nat.blt 0 ti.size && Nat.ble n 1048576 with
        | true => some (.sl nx n, .ro n ti.size (.exp l), acc1)
        | false => none
      | _, _, _, _ => none
    | _, _ => none
  | .makeMap t none => some (.mp nx, .obj (match h.i1 with | some _ => .ix [] | none => match h.b with | some true => .set [] | some false => .iset [] | none => .map []), acc)
  | .range t x => match look t cfg.tys, ev cfg T acc x with
    | some ⟨.string, _, _, _⟩, some (.lit (.string s), acc1) => some (.ptr nx 0 0 0, .obj (.sit s 0), acc1)
    | _, _ => none
  | _ => none

section
variable {cfg : Cfg} {P : Program} {T : List (Nat × AV)} {H : List (Nat × Chunk)} {ρ : Env} {a : Act} {w : World}

/-- What it means that an operation makes a chunk. -/
def ExtOk (P : Program) (a : Act) (o : Oper) (ρ : Env) (H : HMap) (w : World) (nx : Nat) (r : AV) (c : Chunk) : Prop :=
  ∃ v w' L, (execOp a.eval o).run P w = .ok (.value v) w' ∧ NewC (· = nx) ρ (envSet ρ nx L) H (oneMap nx c) w w' ∧ r.den (envSet ρ nx L) = some v

theorem ext_blk {o : Oper} {nx : Nat} {t : TypeId} {cs : List AV} {vs : Array Value} (hn : ρ nx = none) (hd : AV.denL ρ cs = some vs.toList)
    (hr : (execOp a.eval o).run P w = .ok (.value (.pointer (some ⟨w.heap.size, 0, none⟩))) (w.alloc (.cells vs t))) : ExtOk P a o ρ (fun k => look k H) w nx (.ptr nx 0 0 0) (.blk t cs) := by
  refine ⟨_, _, ⟨some ⟨w.heap.size, 0, none⟩, 0⟩, hr, newC_one hn (Below.alloc (Below.refl _ _) (Nat.le_refl _) _) ?_ ?_, ?_⟩
  · exact ⟨_, _, vs.toList, envSet_same _ _ _, AV.denL_mono (envSet_le hn) _ _ hd, by rw [Array.toArray_toList]; exact heap_alloc_new w _⟩
  · rintro g ⟨L, b, e1, e2, e3⟩
    rw [envSet_same] at e1
    cases e1; cases e2; subst e3
    exact .inl (Nat.le_refl _)
  · simp [AV.den, envSet_same, Addr.add]

theorem ext_obj {o : Oper} {nx : Nat} {k : ObjK} {ob : Obj} {r : AV} {v : Value} (hn : ρ nx = none) (hd : k.is ρ ob)
    (hr : (execOp a.eval o).run P w = .ok (.value v) (w.alloc ob)) (hv : r.den (envSet ρ nx ⟨some ⟨w.heap.size, 0, none⟩, 0⟩) = some v) : ExtOk P a o ρ (fun k => look k H) w nx r (.obj k) := by
  refine ⟨_, _, ⟨some ⟨w.heap.size, 0, none⟩, 0⟩, hr, newC_one hn (Below.alloc (Below.refl _ _) (Nat.le_refl _) _) ?_ ?_, hv⟩
  · exact ⟨_, _, ob, envSet_same _ _ _, ObjK.is_mono (envSet_le hn) hd, heap_alloc_new w _⟩
  · rintro g ⟨L, b, e1, e2, e3⟩
    rw [envSet_same] at e1
    cases e1; cases e2; subst e3
    exact .inl (Nat.le_refl _)

theorem ext_row {o : Oper} {nx n sz cap : Nat} {e : TypeId} {c : Cont} {vs : List Value} {cur : Array Value} (hn : ρ nx = none) (hd : AV.denL ρ c.cells = some vs) (hl : vs.length = n * sz) (hcap : n ≤ cap) (hm : cap ≤ maxLen)
    (hs : cur.size = cap * sz) (ht : cur.toList.take (n * sz) = vs)
    (hr : (execOp a.eval o).run P w = .ok (.value (.slice (some ⟨w.heap.size, 0, none⟩) n cap)) (w.alloc (.cells cur e))) : ExtOk P a o ρ (fun k => look k H) w nx (.sl nx n) (.row e n sz c) := by
  refine ⟨_, _, ⟨some ⟨w.heap.size, 0, none⟩, cap⟩, hr, newC_one hn (Below.alloc (Below.refl _ _) (Nat.le_refl _) _) ?_ ?_, ?_⟩
  · exact ⟨_, vs, envSet_same _ _ _, AV.denL_mono (envSet_le hn) _ _ hd, hl, .inr ⟨_, cap, cur, rfl, Nat.zero_le _, heap_alloc_new w _, hcap, hm, hs, ht⟩⟩
  · rintro g ⟨L, b, e1, e2, e3⟩
    rw [envSet_same] at e1
    cases e1; cases e2; subst e3
    exact .inl (Nat.le_refl _)
  · simp [AV.den, envSet_same]


theorem repL_den {ρ : Env} {zs : List AV} {z : List Value} (h : AV.denL ρ zs = some z) : ∀ n, AV.denL ρ (repL n zs) = some (repL n z)
  | 0 => rfl
  | n + 1 => denL_append h (repL_den h n)
theorem repL_len {α : Type} (l : List α) : ∀ n, (repL n l).length = n * l.length
  | 0 => by simp [repL]
  | n + 1 => by rw [repL, List.length_append, repL_len l n, Nat.add_mul]; omega
theorem repL_at {α : Type} (l : List α) (hl : 0 < l.length) : ∀ n q, q < n * l.length → (repL n l)[q]? = l[q % l.length]?
  | 0, q, h => by simp at h
  | n + 1, q, h => by
    rw [repL]
    by_cases hq : q < l.length
    · rw [List.getElem?_append_left hq, Nat.mod_eq_of_lt hq]
    · have e : q % l.length = (q - l.length) % l.length := Nat.mod_eq_sub_mod (by omega)
      have h2 : (n + 1) * l.length = n * l.length + l.length := by rw [Nat.add_mul]; omega
      rw [List.getElem?_append_right (by omega), e]
      exact repL_at l hl n _ (by omega)
theorem repL_made (zs : Array Value) (n : Nat) (hz : 0 < zs.size) : (Array.range (n * zs.size)).map (fun q => zs[q % zs.size]!) = (repL n zs.toList).toArray := by
  apply Array.toList_inj.1
  refine List.ext_getElem? fun q => ?_
  by_cases hq : q < n * zs.size
  · rw [List.toList_toArray, repL_at _ (by simpa using hz) n q (by simpa using hq)]
    have := Nat.mod_lt q hz
    simp [hq, this]
  · rw [List.getElem?_eq_none (by simp; omega), List.getElem?_eq_none (by rw [List.toList_toArray, repL_len]; simp; omega)]

theorem denL_take {ρ : Env} : ∀ {l : List AV} {vs : List Value} (k : Nat), AV.denL ρ l = some vs → AV.denL ρ (l.take k) = some (vs.take k) ∧ AV.denL ρ (l.drop k) = some (vs.drop k)
  | [], vs, k, h => by cases h; simp [AV.denL]
  | a :: l, vs, 0, h => by simp [AV.denL] at h ⊢; exact h
  | a :: l, vs, k + 1, h => by
    simp only [AV.denL] at h
    obtain ⟨v, ws, h1, h2, rfl⟩ := listO_some h
    obtain ⟨h3, h4⟩ := denL_take k h2
    exact ⟨by simp [AV.denL, h1, h3, listO], by simpa using h4⟩
theorem sliceC_den {ρ : Env} {c c' : Cont} {lo hi n sz : Nat} {vs : List Value} (h : sliceC c lo hi sz = some c') (hd : AV.denL ρ c.cells = some vs) (hl : vs.length = n * sz) (h1 : lo ≤ hi) (h2 : hi ≤ n) :
    AV.denL ρ c'.cells = some ((vs.drop (lo * sz)).take ((hi - lo) * sz)) := by
  cases c with
  | ints k l =>
    simp only [sliceC] at h
    split at h
    · rename_i hs
      cases Nat.eq_of_beq_eq_true hs
      cases h
      have e : ∀ l : List Int, (Cont.ints k l).cells = (l.map (Value.int k)).map AV.lit := by intro l; simp [Cont.cells]
      rw [e, denL_lits] at hd
      cases hd
      rw [e, denL_lits]
      simp [List.map_take, List.map_drop]
    · cases h
  | bools l =>
    simp only [sliceC] at h
    split at h
    · rename_i hs
      cases Nat.eq_of_beq_eq_true hs
      cases h
      have e : ∀ l : List Bool, (Cont.bools l).cells = (l.map Value.bool).map AV.lit := by intro l; simp [Cont.cells]
      rw [e, denL_lits] at hd
      cases hd
      rw [e, denL_lits]
      simp [List.map_take, List.map_drop]
    · cases h
  | gen m sz' get =>
    simp only [sliceC] at h
    split at h
    · rename_i hs
      cases Nat.eq_of_beq_eq_true hs
      cases h
      have e : ∀ (m : Nat) (get : Nat → List Value), (Cont.gen m sz get).cells = ((List.range (m * sz)).map fun q => (get (q / sz)).getD (q % sz) undef).map AV.lit := by intro m get; simp [Cont.cells]
      rw [e, denL_lits] at hd
      cases hd
      rw [e, denL_lits]
      congr 1
      have hm : m * sz = n * sz := by simpa using hl
      have e1 : (hi - lo) * sz + lo * sz = hi * sz := by rw [← Nat.add_mul]; congr 1; omega
      have e2 : hi * sz ≤ n * sz := Nat.mul_le_mul_right _ h2
      refine List.ext_getElem? fun q => ?_
      by_cases hq : q < (hi - lo) * sz
      · have hsz : 0 < sz := by rcases Nat.eq_zero_or_pos sz with h | h; · subst h; omega
                                exact h
        rw [List.getElem?_take_of_lt hq, List.getElem?_drop]
        have d1 : (lo * sz + q) / sz = lo + q / sz := by rw [Nat.mul_comm, Nat.mul_add_div hsz]
        have d2 : (lo * sz + q) % sz = q % sz := by rw [Nat.mul_comm, Nat.mul_add_mod]
        simp [hq, show lo * sz + q < m * sz by omega, d1, d2]
      · rw [List.getElem?_eq_none (by simp; omega), List.getElem?_eq_none (by simp; omega)]
    · cases h
  | exp l => cases h; exact (denL_take _ (denL_take _ hd).2).1
  | app c l => cases h
  | tbl j n len ex => cases h
  | jbs j m sz' hd' len =>
    simp only [sliceC] at h
    split at h
    · rename_i _ _ hs
      cases Nat.eq_of_beq_eq_true hs
      cases h
      have hln := denL_len hd
      have hm : m * sz = n * sz := by rw [hl] at hln; simpa [Cont.cells] using hln.symm
      have e2 : hi * sz ≤ n * sz := Nat.mul_le_mul_right _ h2
      have h3 := (denL_take (hi * sz) hd).1
      have h4 : (Cont.jbs j hi sz hd' len).cells = (Cont.jbs j m sz hd' len).cells.take (hi * sz) := by
        simp only [Cont.cells]
        rw [← List.map_take, List.take_range, Nat.min_eq_left (by omega)]
      rw [h4, h3]
      simp
    · cases h

theorem evO_acc {x : Option Operand} {acc acc' : List Cd} {r : Option AV} (h : evO cfg T x acc = some (r, acc')) (hc : All acc') : All acc := by
  cases x with
  | none => cases h; exact hc
  | some x =>
    simp only [evO] at h
    split at h
    · cases h; exact ev_acc (by assumption) hc
    · cases h
theorem evO_sound (hk : Know cfg P (fun k => look k T) (fun k => look k H) ρ a w) {x : Option Operand} {acc acc' : List Cd} {r : Option AV} (h : evO cfg T x acc = some (r, acc')) (hc : All acc') :
    (x = none ∧ r = none) ∨ ∃ y av v, x = some y ∧ r = some av ∧ av.den ρ = some v ∧ a.eval y = v := by
  cases x with
  | none => cases h; exact .inl ⟨rfl, rfl⟩
  | some x =>
    simp only [evO] at h
    split at h
    · rename_i h1
      cases h
      obtain ⟨_, v, h2, h3⟩ := ev_sound hk h1 hc
      exact .inr ⟨_, _, v, rfl, rfl, h2, h3⟩
    · cases h
theorem bound_acc {h : Option Nat} {d n : Nat} {v : Option AV} {acc acc' : List Cd} (hb : bound h d v acc = some (n, acc')) (hc : All acc') : All acc := by
  unfold bound at hb
  split at hb
  · cases hb; exact hc
  · exact idx_acc (Option.some.inj hb) hc
  · cases hb

set_option maxHeartbeats 1000000 in
theorem extOp_sound (hk : Know cfg P (fun k => look k T) (fun k => look k H) ρ a w) {nx : Nat} (hn : ρ nx = none) {hi : Hint} {o : Oper} {acc acc' : List Cd} {r : AV} {c : Chunk}
    (h : extOp cfg T H nx hi o acc = some (r, c, acc')) (hc : All acc') : All acc ∧ ExtOk P a o ρ (fun k => look k H) w nx r c := by
  unfold extOp at h
  split at h
  · rename_i t ho
    split at h
    · rename_i ti h1
      split at h
      · rename_i zs h2
        cases h
        have hz := tv_zero (w := w) hk.tv h1
        refine ⟨hc, ext_blk (vs := ti.zero.cells) hn (cellsOf_den (v := ti.zero) h2 (by simp [AV.den])) ?_⟩
        simp only [execOp, ho, Instr.alloc, Sem.run_bind, hz, Result.andThen_ok, newVar, newRow, newObj, Sem.run_pure]
        rfl
      · cases h
    · cases h
  · rename_i t x ho
    split at h
    · rename_i v acc1 h1
      split at h
      · rename_i cs h2
        cases h
        obtain ⟨h3, u, h4, h5⟩ := ev_sound hk h1 hc
        refine ⟨h3, ext_blk (vs := u.cells) hn (cellsOf_den h2 h4) ?_⟩
        simp only [execOp, ho, h5, Instr.box, Sem.run_bind, newVar, newRow, newObj, Sem.run_pure]
        rfl
      · cases h
    · cases h
  · rename_i t len parts ho
    split at h
    · rename_i e _ _ _ h1
      split at h
      · rename_i ti h2
        split at h
        · rename_i zs h3 h4
          split at h
          · rename_i h5
            split at h
            · rename_i cs acc1 h6
              have hacc : acc1 = acc' := by split at h <;> (cases h; rfl)
              subst hacc
              simp only [Bool.and_eq_true] at h3
              have hle : len * ti.size ≤ 16777216 := Nat.le_of_ble_eq_true h3.1
              have hpos : 0 < ti.size := Nat.le_of_ble_eq_true h3.2
              have hzl : zs.length = ti.size := Nat.eq_of_beq_eq_true h5
              have hu := tv_under (w := w) hk.tv h1
              simp only at hu
              have hs := tv_size (w := w) hk.tv h2
              have hz := tv_zero (w := w) hk.tv h2
              have hzd := cellsOf_den (ρ := ρ) (v := ti.zero) h4 (by simp [AV.den])
              have hzz : ti.zero.cells.size = ti.size := by rw [← hzl, ← denL_len hzd]; simp
              have hrep := repL_den hzd len
              obtain ⟨us, h7, h8, h9⟩ := fillA_sound hk h6 hc (vs := (repL len ti.zero.cells.toList).toArray) (by simpa using hrep)
              have h10 := fillA_acc h6 hc
              have h11 : us.size = len * ti.size := by rw [h9]; simp [repL_len, hzz]
              have hrun : (execOp a.eval o).run P w = .ok (.value (.slice (some ⟨w.heap.size, 0, none⟩) len len)) (w.alloc (.cells us e)) := by
                have hmap : (parts.map fun (i, x) => (i, a.eval x)).toList = parts.toList.map fun p => (p.1, a.eval p.2) := by simp
                have hmade := repL_made ti.zero.cells len (by omega)
                rw [hzz] at hmade
                rw [← hmap] at h8
                have hcond : ¬ (len * ti.size > 2 ^ 24) := by omega
                by_cases h0 : len * ti.size = 0
                · have hl0 : len = 0 := by
                    rcases Nat.mul_eq_zero.1 h0 with h | h
                    · exact h
                    · omega
                  subst hl0
                  simp only [repL] at h8
                  have h12 : (Array.range (0 * ti.size)).map (fun q => (#[] : Array Value)[q % (#[] : Array Value).size]!) = ([] : List Value).toArray := by simp
                  have h13 : ¬ (0 * ti.size > 2 ^ 24) := by simp
                  have h14 : 0 * ti.size = 0 := by simp
                  simp only [execOp, ho, Instr.buildSlice, Sem.run_bind, hu, hs, Result.andThen_ok, if_neg h13, if_pos h14, Sem.run_pure, h12, h8, newRow, newObj]
                  rfl
                · simp only [execOp, ho, Instr.buildSlice, Sem.run_bind, hu, hs, Result.andThen_ok, if_neg hcond, h0, if_false, hz, Sem.run_pure, hzz, hmade, h8, newRow, newObj]
                  rfl
              split at h
              · rename_i hbare
                cases h
                have hl0 : len = 0 := bareB_eq hbare
                subst hl0
                refine ⟨h10, .slice (some ⟨w.heap.size, 0, none⟩) 0 0, _, ⟨some ⟨w.heap.size, 0, none⟩, 0⟩, hrun, newC_one hn (Below.alloc (Below.refl _ _) (Nat.le_refl _) _) ?_ ?_, by simp [AV.den, envSet_same]⟩
                · exact ⟨_, [], envSet_same _ _ _, rfl, by simp, Nat.le_refl _, Nat.le_refl _, fun h => by simp at h⟩
                · rintro g ⟨h0, _⟩; simp at h0
              · cases h
                refine ⟨h10, ext_row (cap := len) (vs := us.toList) (cur := us) hn h7 (by simpa using h11) (Nat.le_refl _) ?_ h11 (List.take_of_length_le (by simp [h11])) hrun⟩
                have : len * 1 ≤ len * ti.size := Nat.mul_le_mul_left _ hpos
                simp only [maxLen]; omega
            · cases h
          · cases h
        · cases h
      · cases h
    · cases h
  · rename_i t l c' ho
    split at h
    · rename_i e _ _ _ h1
      split at h
      · rename_i ti h2
        split at h
        · rename_i kl x acc1 h3 h4
          split at h
          · rename_i kc y acc2 h5
            split at h
            rename_i n acc3 h6
            cases h
            simp only [Bool.and_eq_true] at h3
            have hzz : ti.zero.cells.size = ti.size := Nat.eq_of_beq_eq_true h3.1.1
            have hpos : 0 < ti.size := Nat.le_of_ble_eq_true h3.1.2
            have hby : ti.bytes ≤ 16777216 := Nat.le_of_ble_eq_true h3.2
            obtain ⟨⟨hxy, hy⟩, hc3⟩ := hc
            obtain ⟨hc2, hx⟩ := idx_sound h6 hc3
            obtain ⟨hc1, vy, hvy, hey⟩ := ev_sound hk h5 hc2
            obtain ⟨hc0, vx, hvx, hex⟩ := ev_sound hk h4 hc1
            simp only [AV.den, Option.some.injEq] at hvx hvy
            subst hvx hvy
            have htv := hk.tv t _ (look_mem h1)
            obtain ⟨_, info, g1, g2, g3, g4⟩ := hk.tv e _ (look_mem h2)
            have hb2 : (ti.bytes : Int) * y ≤ 281474976710656 := by
              have h7 : (ti.bytes : Int) * y ≤ 16777216 * 1048576 := by
                have a1 : (ti.bytes : Int) * y ≤ (ti.bytes : Int) * 1048576 := Int.mul_le_mul_of_nonneg_left hy (by omega)
                have a2 : (ti.bytes : Int) * 1048576 ≤ 16777216 * 1048576 := by omega
                omega
              omega
            have hr := run_make (P := P) w t e info ti.zero htv.1 g1 g4 kl kc x y (by omega) hxy (by rw [g3]; exact hb2) (by omega)
            rw [g2] at hr
            have hnn : x.toNat = n := by omega
            rw [hnn] at hr
            refine ⟨hc0, ext_row (cap := y.toNat) (vs := (madeCells ti.zero.cells (y.toNat * ti.size)).toList.take (n * ti.size)) (cur := madeCells ti.zero.cells (y.toNat * ti.size)) hn
              (zeroCont_den ρ ti.zero n y.toNat ti.size hzz hpos (by omega)) ?_ (by omega) (by simp only [maxLen]; omega) (by simp [madeCells]) rfl ?_⟩
            · have h8 : n * ti.size ≤ y.toNat * ti.size := Nat.mul_le_mul_right _ (by omega)
              rw [List.length_take, madeCells_len]; omega
            · simp only [execOp, ho, hex, hey, Sem.run_bind, hr, Result.andThen_ok, Sem.run_pure]
          · cases h
        · cases h
      · cases h
    · cases h
  · rename_i t x lo hi' ho
    split at h
    · rename_i e _ _ _ i n acc1 h1 h2
      split at h
      · rename_i m sz c ti h3 h4
        split at h
        · rename_i vl acc2 h5 h6
          split at h
          · rename_i vh acc3 h7
            split at h
            · rename_i l acc4 h8
              split at h
              · rename_i u acc5 h9
                split at h
                · rename_i c' h10
                  cases h
                  obtain ⟨⟨g1, g2, g3⟩, hc5⟩ := hc
                  have hc4 := bound_acc h9 hc5
                  have hc3 := bound_acc h8 hc4
                  have hc2 := evO_acc h7 hc3
                  have hc1 := evO_acc h6 hc2
                  obtain ⟨hc0, vx, hx1, hx2⟩ := ev_sound hk h2 hc1
                  refine ⟨hc0, ?_⟩
                  simp only [AV.den, Option.map_eq_some_iff] at hx1
                  obtain ⟨L, e1, rfl⟩ := hx1
                  have hsz : ti.size = sz := Nat.eq_of_beq_eq_true h5
                  have hu := tv_under (w := w) hk.tv h1
                  simp only at hu
                  have hs := tv_size (w := w) hk.tv h4
                  have hhold := hk.heap.holds i _ h3
                  obtain ⟨L', vs, e2, e3, e4, e5, e6, e7⟩ := hhold
                  rw [e1] at e2; cases e2
                  have hlo : lo.map a.eval = none ∧ l = 0 ∨ ∃ k q, lo.map a.eval = some (.int k q) ∧ q = (l : Int) := by
                    rcases evO_sound hk h6 hc2 with ⟨rfl, rfl⟩ | ⟨y, av, v, rfl, rfl, f1, f2⟩
                    · cases h8; exact .inl ⟨rfl, rfl⟩
                    · right
                      unfold bound at h8
                      split at h8
                      · rename_i h; cases h
                      · rename_i h; cases h
                        simp only [AV.den, Option.some.injEq] at f1
                        exact ⟨_, _, by simp [f2, ← f1]; rfl, (idx_sound (Option.some.inj h8) hc4).2⟩
                      · cases h8
                  have hhi : hi'.map a.eval = none ∧ u = n ∨ ∃ k q, hi'.map a.eval = some (.int k q) ∧ q = (u : Int) := by
                    rcases evO_sound hk h7 hc3 with ⟨rfl, rfl⟩ | ⟨y, av, v, rfl, rfl, f1, f2⟩
                    · cases h9; exact .inl ⟨rfl, rfl⟩
                    · right
                      unfold bound at h9
                      split at h9
                      · rename_i h; cases h
                      · rename_i h; cases h
                        simp only [AV.den, Option.some.injEq] at f1
                        exact ⟨_, _, by simp [f2, ← f1]; rfl, (idx_sound (Option.some.inj h9) hc5).2⟩
                      · cases h9
                  have hbounds : (Instr.sliceBounds true n L.cap (lo.map a.eval) (hi'.map a.eval) none).run P w = .ok (l, u, L.cap) w := by
                    have b1 : ∀ (k : IntKind) (q : Int) (y : Nat) (code : BoundsCode) (z : Nat), q = (z : Int) → z ≤ y → (Instr.sliceBound (.int k q) y code).run P w = .ok z w := by
                      intro k q y code z hq hz
                      subst hq
                      have : (z : Int) ≤ (y : Int) := by omega
                      simp [Instr.sliceBound, asIntOf, this]
                    rcases hlo with ⟨f1, rfl⟩ | ⟨k, q, f1, f2⟩ <;> rcases hhi with ⟨f3, rfl⟩ | ⟨k', q', f3, f4⟩
                    · simp [Instr.sliceBounds, f1, f3]
                    · simp [Instr.sliceBounds, f1, f3, b1 k' q' L.cap .sliceAcap u f4 (by omega)]
                    · simp [Instr.sliceBounds, f1, f3, b1 k q _ .sliceB l f2 g1]
                    · simp [Instr.sliceBounds, f1, f3, b1 k' q' L.cap .sliceAcap u f4 (by omega), b1 k q _ .sliceB l f2 g1]
                  refine ⟨.slice (if L.cap = l then L.ad else L.ad.map (·.add (l * sz))) (u - l) (L.cap - l), w, ⟨if L.cap = l then L.ad else L.ad.map (·.add (l * sz)), L.cap - l⟩, ?_, newC_one hn (Below.refl _ _) ?_ ?_, ?_⟩
                  rotate_left 3
                  · simp only [AV.den, envSet_same, Option.map_some]
                  · simp only [execOp, ho, hx2, Instr.sliceAt, Instr.slice, Sem.run_bind, hu, Result.andThen_ok, hs, hsz, Sem.run_pure, Option.map_none, hbounds]
                  · refine ⟨_, _, envSet_same _ _ _, AV.denL_mono (envSet_le hn) _ _ (sliceC_den h10 e3 e4 g1 (by omega)), ?_, by dsimp only; omega, by dsimp only; omega, fun h0 => ?_⟩
                    · have d1 : (u - l) * sz + l * sz = u * sz := by rw [← Nat.add_mul]; congr 1; omega
                      have d2 : u * sz ≤ m * sz := Nat.mul_le_mul_right _ (by omega)
                      rw [List.length_take, List.length_drop, e4]; omega
                    · have d0 : 0 < u - l := by
                        rcases Nat.eq_zero_or_pos (u - l) with h1 | h1
                        · rw [h1] at h0; simp at h0
                        · exact h1
                      have dsz : 0 < sz := by
                        rcases Nat.eq_zero_or_pos sz with h1 | h1
                        · rw [h1] at h0; simp at h0
                        · exact h1
                      obtain ⟨ad, f1, f2⟩ := e7 (Nat.mul_pos (by omega) dsz)
                      refine ⟨ad.add (l * sz), ?_, fun j x hx => ?_⟩
                      · rw [if_neg (by omega), f1]; rfl
                      · rw [addr_add']
                        have hj : j < (u - l) * sz := by
                          have := (List.getElem?_eq_some_iff.1 hx).1
                          rw [List.length_take] at this; omega
                        rw [List.getElem?_take_of_lt hj, List.getElem?_drop] at hx
                        exact f2 _ _ hx
                  · rintro g ⟨h0, L', b, f1, f2, f3⟩
                    rw [envSet_same] at f1
                    cases f1
                    right
                    have d0 : 0 < u - l := by
                      rcases Nat.eq_zero_or_pos (u - l) with h1 | h1
                      · rw [h1] at h0; simp at h0
                      · exact h1
                    have dsz : 0 < sz := by
                      rcases Nat.eq_zero_or_pos sz with h1 | h1
                      · rw [h1] at h0; simp at h0
                      · exact h1
                    refine ⟨rfl, i, _, h3, rfl, Nat.mul_pos (by omega) dsz, L, ?_⟩
                    dsimp only at f2
                    rw [if_neg (by omega)] at f2
                    cases hL : L.ad with
                    | none => rw [hL] at f2; cases f2
                    | some ad =>
                      rw [hL] at f2
                      simp only [Option.map_some, Option.some.injEq] at f2
                      refine ⟨ad, e1, rfl, ?_⟩
                      rw [← f3, ← f2, addr_block']
                · cases h
              · cases h
            · cases h
          · cases h
        · cases h
      · cases h
    · rename_i e _ _ _ i rr n acc1 h1 h2
      split at h
      · rename_i te sz m len cf ti h3 h4
        split at h
        · rename_i vl acc2 h5 h6
          split at h
          · rename_i vh acc3 h7
            split at h
            · rename_i l acc4 h8
              split at h
              · rename_i u acc5 h9
                split at h
                · rename_i c' h10
                  cases h
                  obtain ⟨⟨g1, g2, g3⟩, hc5⟩ := hc
                  have hc4 := bound_acc h9 hc5
                  have hc3 := bound_acc h8 hc4
                  have hc2 := evO_acc h7 hc3
                  have hc1 := evO_acc h6 hc2
                  obtain ⟨hc0, vx, hx1, hx2⟩ := ev_sound hk h2 hc1
                  refine ⟨hc0, ?_⟩
                  simp only [AV.den, Option.bind_eq_some_iff, Tb.den, Option.map_eq_some_iff] at hx1
                  obtain ⟨LF, eF, r, er, rfl⟩ := hx1
                  have hsz : ti.size = sz := Nat.eq_of_beq_eq_true h5
                  have hu := tv_under (w := w) hk.tv h1
                  simp only at hu
                  have hs := tv_size (w := w) hk.tv h4
                  obtain ⟨LF', eF', hf⟩ := hk.heap.holds i _ h3
                  rw [eF] at eF'; cases eF'
                  obtain ⟨vs, e3', e4, e5, e6, e7, _⟩ := hf.2.2.1 rr r er
                  have e3 := e3' ρ
                  obtain ⟨L, hLr⟩ : ∃ L : Loc, L = ⟨r.1, r.2⟩ := ⟨_, rfl⟩
                  have hLa : r.1 = L.ad := by rw [hLr]
                  have hLc : r.2 = L.cap := by rw [hLr]
                  rw [hLa, hLc] at hx2
                  rw [hLc, ← capOk_pos hf.1] at e6
                  rw [hLc] at e5
                  rw [hLa] at e7
                  have hlo : lo.map a.eval = none ∧ l = 0 ∨ ∃ k q, lo.map a.eval = some (.int k q) ∧ q = (l : Int) := by
                    rcases evO_sound hk h6 hc2 with ⟨rfl, rfl⟩ | ⟨y, av, v, rfl, rfl, f1, f2⟩
                    · cases h8; exact .inl ⟨rfl, rfl⟩
                    · right
                      unfold bound at h8
                      split at h8
                      · rename_i h; cases h
                      · rename_i h; cases h
                        simp only [AV.den, Option.some.injEq] at f1
                        exact ⟨_, _, by simp [f2, ← f1]; rfl, (idx_sound (Option.some.inj h8) hc4).2⟩
                      · cases h8
                  have hhi : hi'.map a.eval = none ∧ u = n ∨ ∃ k q, hi'.map a.eval = some (.int k q) ∧ q = (u : Int) := by
                    rcases evO_sound hk h7 hc3 with ⟨rfl, rfl⟩ | ⟨y, av, v, rfl, rfl, f1, f2⟩
                    · cases h9; exact .inl ⟨rfl, rfl⟩
                    · right
                      unfold bound at h9
                      split at h9
                      · rename_i h; cases h
                      · rename_i h; cases h
                        simp only [AV.den, Option.some.injEq] at f1
                        exact ⟨_, _, by simp [f2, ← f1]; rfl, (idx_sound (Option.some.inj h9) hc5).2⟩
                      · cases h9
                  have hbounds : (Instr.sliceBounds true n L.cap (lo.map a.eval) (hi'.map a.eval) none).run P w = .ok (l, u, L.cap) w := by
                    have b1 : ∀ (k : IntKind) (q : Int) (y : Nat) (code : BoundsCode) (z : Nat), q = (z : Int) → z ≤ y → (Instr.sliceBound (.int k q) y code).run P w = .ok z w := by
                      intro k q y code z hq hz
                      subst hq
                      have : (z : Int) ≤ (y : Int) := by omega
                      simp [Instr.sliceBound, asIntOf, this]
                    rcases hlo with ⟨f1, rfl⟩ | ⟨k, q, f1, f2⟩ <;> rcases hhi with ⟨f3, rfl⟩ | ⟨k', q', f3, f4⟩
                    · simp [Instr.sliceBounds, f1, f3]
                    · simp [Instr.sliceBounds, f1, f3, b1 k' q' L.cap .sliceAcap u f4 (by omega)]
                    · simp [Instr.sliceBounds, f1, f3, b1 k q _ .sliceB l f2 g1]
                    · simp [Instr.sliceBounds, f1, f3, b1 k' q' L.cap .sliceAcap u f4 (by omega), b1 k q _ .sliceB l f2 g1]
                  refine ⟨.slice (if L.cap = l then L.ad else L.ad.map (·.add (l * sz))) (u - l) (L.cap - l), w, ⟨if L.cap = l then L.ad else L.ad.map (·.add (l * sz)), L.cap - l⟩, ?_, newC_one hn (Below.refl _ _) ?_ ?_, ?_⟩
                  rotate_left 3
                  · simp only [AV.den, envSet_same, Option.map_some]
                  · simp only [execOp, ho, hx2, Instr.sliceAt, Instr.slice, Sem.run_bind, hu, Result.andThen_ok, hs, hsz, Sem.run_pure, Option.map_none, hbounds]
                  · refine ⟨_, _, envSet_same _ _ _, AV.denL_mono (envSet_le hn) _ _ (sliceC_den h10 e3 e4 g1 (show u ≤ len rr by omega)), ?_, by dsimp only; omega, by dsimp only; omega, fun h0 => ?_⟩
                    · have d1 : (u - l) * sz + l * sz = u * sz := by rw [← Nat.add_mul]; congr 1; omega
                      have d2 : u * sz ≤ len rr * sz := Nat.mul_le_mul_right _ (by omega)
                      rw [List.length_take, List.length_drop, e4]; omega
                    · have d0 : 0 < u - l := by
                        rcases Nat.eq_zero_or_pos (u - l) with h1 | h1
                        · rw [h1] at h0; simp at h0
                        · exact h1
                      have dsz : 0 < sz := by
                        rcases Nat.eq_zero_or_pos sz with h1 | h1
                        · rw [h1] at h0; simp at h0
                        · exact h1
                      obtain ⟨ad, f1, f2⟩ := e7 (Nat.mul_pos (by omega) dsz)
                      refine ⟨ad.add (l * sz), ?_, fun j x hx => ?_⟩
                      · rw [if_neg (by omega), f1]; rfl
                      · rw [addr_add']
                        have hj : j < (u - l) * sz := by
                          have := (List.getElem?_eq_some_iff.1 hx).1
                          rw [List.length_take] at this; omega
                        rw [List.getElem?_take_of_lt hj, List.getElem?_drop] at hx
                        exact f2 _ _ hx
                  · rintro g ⟨h0, L', b, f1, f2, f3⟩
                    rw [envSet_same] at f1
                    cases f1
                    right
                    have d0 : 0 < u - l := by
                      rcases Nat.eq_zero_or_pos (u - l) with h1 | h1
                      · rw [h1] at h0; simp at h0
                      · exact h1
                    have dsz : 0 < sz := by
                      rcases Nat.eq_zero_or_pos sz with h1 | h1
                      · rw [h1] at h0; simp at h0
                      · exact h1
                    refine ⟨rfl, i, _, h3, rfl, LF, eF, rr, r, ?_⟩
                    dsimp only at f2
                    rw [if_neg (by omega)] at f2
                    cases hL : L.ad with
                    | none => rw [hL] at f2; cases f2
                    | some ad =>
                      rw [hL] at f2
                      simp only [Option.map_some, Option.some.injEq] at f2
                      refine ⟨ad, er, hLa.trans hL, ?_, Nat.mul_pos (by omega) dsz⟩
                      rw [← f3, ← f2, addr_block']
                · cases h
              · cases h
            · cases h
          · cases h
        · cases h
      · cases h
    · rename_i n e _ _ _ i z acc1 h1 h2
      split at h
      · rename_i l ti h3 h4
        split at h
        · rename_i h5
          cases h
          simp only [Bool.and_eq_true] at h5
          have hl : l.length = n * ti.size := Nat.eq_of_beq_eq_true h5.1.1
          have hpos : 0 < ti.size := Nat.le_of_ble_eq_true h5.1.2
          have hn1 : n ≤ 1048576 := Nat.le_of_ble_eq_true h5.2
          obtain ⟨hc0, vx, hx1, hx2⟩ := ev_sound hk h2 hc
          refine ⟨hc0, ?_⟩
          have hu := tv_under (w := w) hk.tv h1
          simp only at hu
          have hs := tv_size (w := w) hk.tv h4
          obtain ⟨g, cap, vs, e1, e2, u, fr, e3⟩ := hk.heap.holds i _ h3
          have hx : vx = .pointer (some ⟨g, 0, none⟩) := by
            simp only [AV.den, e1, Option.bind_some, Option.map_some, Option.some.injEq] at hx1
            rw [← hx1, addr_zero]; simp
          subst hx
          have hlen : vs.length = n * ti.size := by rw [denL_len e2, hl]
          have hb : (Instr.sliceBounds false n n none none none).run P w = .ok (0, n, n) w := by simp [Instr.sliceBounds]
          have hz : (if n = 0 then (⟨g, 0, none⟩ : Addr) else Addr.add ⟨g, 0, none⟩ (0 * ti.size)) = ⟨g, 0, none⟩ := by rw [Nat.zero_mul, addr_zero]; split <;> rfl
          refine ⟨.slice (some ⟨g, 0, none⟩) n n, w, ⟨some ⟨g, 0, none⟩, n⟩, ?_, newC_one hn (Below.refl _ _) ?_ ?_, ?_⟩
          rotate_left 3
          · simp only [AV.den, envSet_same, Option.map_some]
          · simp only [execOp, ho, hx2, Instr.sliceAt, Instr.sureAddr, Option.map_none, Sem.run_bind, hu, Result.andThen_ok, hs, Sem.run_pure, hb, hz, Nat.sub_zero]
          · refine ⟨_, _, envSet_same _ _ _, AV.denL_mono (envSet_le hn) _ _ e2, hlen, Nat.le_refl _, by rw [capOk_pos hpos]; simp only [maxLen]; omega, fun h0 => ⟨_, rfl, fun j x hx => ?_⟩⟩
            rw [addr_zero, cell_of_row w g _ _ u fr e3]
            simpa using hx
          · rintro g' ⟨h0, L', b, f1, f2, f3⟩
            rw [envSet_same] at f1
            cases f1
            cases f2
            exact .inr ⟨rfl, i, _, h3, rfl, _, _, e1, rfl, f3⟩
        · cases h
      · cases h
    · cases h
  · rename_i t ho
    cases h
    refine ⟨hc, ext_obj (ob := .map #[] 0) (v := .map (some w.heap.size)) hn ?_ (by simp only [execOp, ho, Option.map_none, Sem.run_bind, run_makeMap, Result.andThen_ok, Sem.run_pure]) (by simp [AV.den, envSet_same])⟩
    cases hi.i1 with
    | some _ => rfl
    | none => cases hi.b with
      | none => exact ⟨[], rfl, rfl⟩
      | some b => cases b with
        | true => rfl
        | false => rfl
  · rename_i t x ho
    split at h
    · rename_i _ _ _ s acc1 h1 h2
      cases h
      obtain ⟨h3, u, h4, h5⟩ := ev_sound hk h2 hc
      simp only [AV.den, Option.some.injEq] at h4
      subst h4
      have hu := (hk.tv t _ (look_mem h1)).1
      exact ⟨h3, ext_obj (ob := .stringIter s 0) (v := .pointer (some ⟨w.heap.size, 0, none⟩)) hn rfl (by simp only [execOp, ho, h5, Sem.run_bind, run_range_string w t s hu, Result.andThen_ok, Sem.run_pure, World.iter]) (by simp [AV.den, envSet_same, Addr.add])⟩
    · cases h
  · cases h
end
end Go.Sym

namespace Go.Sym
open Go.RowKit

def oneA : AV → Bool
  | .lit v => v.oneCell'
  | .ptr .. | .sl .. | .fn .. | .yld _ | .mp _ | .tb .. => true
  | _ => false
def oneL : List AV → Bool
  | [] => true
  | a :: l => match oneA a with | true => oneL l | false => false
theorem oneA_den {ρ : Env} {a : AV} {v : Value} (h : oneA a = true) (hd : a.den ρ = some v) : v.oneCell' = true := by
  cases a with
  | lit x => simp only [AV.den, Option.some.injEq] at hd; subst hd; exact h
  | ptr i e sz j =>
    simp only [AV.den, Option.bind_eq_some_iff, Option.map_eq_some_iff] at hd
    obtain ⟨L, h1, x, h2, rfl⟩ := hd
    rfl
  | sl i n =>
    simp only [AV.den, Option.map_eq_some_iff] at hd
    obtain ⟨L, h1, rfl⟩ := hd
    rfl
  | fn f x y =>
    simp only [AV.den, Option.bind_eq_some_iff, Option.map_eq_some_iff] at hd
    obtain ⟨x, h1, y, h2, rfl⟩ := hd
    rfl
  | yld i =>
    simp only [AV.den, Option.bind_eq_some_iff, Option.map_eq_some_iff] at hd
    obtain ⟨L, h1, x, h2, rfl⟩ := hd
    rfl
  | mp i =>
    simp only [AV.den, Option.bind_eq_some_iff, Option.map_eq_some_iff] at hd
    obtain ⟨L, h1, x, h2, rfl⟩ := hd
    rfl
  | tb i x =>
    simp only [AV.den, Option.bind_eq_some_iff] at hd
    obtain ⟨L, h1, h2⟩ := hd
    rcases Tb.den_one h2 with ⟨a, n, c, rfl⟩ | ⟨a, rfl⟩ <;> rfl
  | _ => cases h
theorem oneL_den {ρ : Env} : ∀ {l : List AV} {vs : List Value}, oneL l = true → AV.denL ρ l = some vs → ∀ v ∈ vs, v.oneCell' = true
  | [], vs, _, hd, v, hv => by cases hd; cases hv
  | a :: l, vs, h, hd, v, hv => by
    simp only [AV.denL] at hd
    obtain ⟨u, us, h1, h2, rfl⟩ := listO_some hd
    simp only [oneL] at h
    split at h
    · rename_i h3
      rcases List.mem_cons.1 hv with rfl | hv
      · exact oneA_den h3 h1
      · exact oneL_den h h2 v hv
    · cases h

def litsOf : List AV → Option (List Value)
  | [] => some []
  | .lit v :: l => match litsOf l with | some vs => some (v :: vs) | none => none
  | _ => none
theorem litsOf_eq : ∀ {l : List AV} {vs : List Value}, litsOf l = some vs → l = vs.map AV.lit
  | [], vs, h => by cases h; rfl
  | .lit v :: l, vs, h => by
    simp only [litsOf] at h
    split at h
    · rename_i us hu
      cases h
      rw [litsOf_eq hu]; rfl
    · cases h

/-- A content with cells laid over it, from cell j of element e on. -/
def setC (c : Cont) (e sz j : Nat) (l : List AV) (acc : List Cd) : Option (Cont × List Cd) :=
  match c with
  | .exp cs => match Nat.ble (e * sz + j + l.length) cs.length with
    | true => forceK (lay cs (e * sz + j) l) [] fun cs' => some (.exp cs', acc)
    | false => none
  | .ints k xs => match l with
    | [.lit (.int k' x)] => match kEq k k' && Nat.beq sz 1 && Nat.beq j 0 with
      | true => some (.ints k (xs.set e x), cd (e < xs.length) :: acc)
      | false => match kEq k k' with
        | true => some (.ints k (xs.set (e * sz + j) x), cd (e * sz + j < xs.length) :: acc)
        | false => none
    | _ => none
  | .bools xs => match l with
    | [.lit (.bool x)] => match Nat.beq sz 1 && Nat.beq j 0 with
      | true => some (.bools (xs.set e x), cd (e < xs.length) :: acc)
      | false => none
    | _ => none
  | .gen n sz' get => match litsOf l with
    | some vs => match Nat.beq sz sz' && Nat.ble (j + l.length) sz && Nat.blt 0 sz with
      | true => some (.gen n sz fun q => if q = e then lay (get e) j vs else get q, cd ((get e).length = sz) :: cd (e < n) :: acc)
      | false => none
    | none => forceK (Cont.gen n sz' get).cells [] fun cs => match Nat.ble (e * sz + j + l.length) cs.length with
      | true => forceK (lay cs (e * sz + j) l) [] fun cs' => some (.exp cs', acc)
      | false => none
  | .app _ _ => none
  | .tbl j' n len ex => match Nat.beq sz 1 && Nat.beq j 0, ex, l with
    | true, none, [a] => some (.tbl j' n len (some (e, a)), cd (e < n) :: acc)
    | _, _, _ => none
  | .jbs .. => none

theorem lay_len {α : Type} : ∀ (l : List α) (n : Nat) (m : List α), (lay l n m).length = l.length
  | [], n, m => by cases n <;> simp [lay]
  | a :: l, 0, [] => by simp [lay]
  | a :: l, 0, b :: m => by simp [lay, lay_len l 0 m]
  | a :: l, n + 1, m => by simp [lay, lay_len l n m]
theorem lay_at {α : Type} (l : List α) (n : Nat) (m : List α) (h : n + m.length ≤ l.length) (q : Nat) : (lay l n m)[q]? = if n ≤ q ∧ q < n + m.length then m[q - n]? else l[q]? := by
  rw [lay_eq _ _ _ h]
  by_cases h1 : q < n
  · rw [if_neg (by omega), List.append_assoc, List.getElem?_append_left (by simp; omega), List.getElem?_take_of_lt h1]
  · by_cases h2 : q < n + m.length
    · rw [if_pos ⟨by omega, h2⟩, List.append_assoc, List.getElem?_append_right (by simp; omega), List.getElem?_append_left (by simp; omega)]
      congr 1; simp; omega
    · rw [if_neg (by omega), List.getElem?_append_right (by simp; omega), List.getElem?_drop]
      congr 1; simp; omega
theorem lay_one {α : Type} : ∀ (l : List α) (n : Nat) (x : α), lay l n [x] = l.set n x
  | [], n, x => by cases n <;> simp [lay]
  | a :: l, 0, x => by simp [lay, lay_nil]
  | a :: l, n + 1, x => by simp [lay, lay_one l n x]

theorem setC_sound {ρ : Env} {c c' : Cont} {e sz j : Nat} {l : List AV} {acc acc' : List Cd} {vs us : List Value} (h : setC c e sz j l acc = some (c', acc')) (hc : All acc') (hd : AV.denL ρ c.cells = some vs) (hl : AV.denL ρ l = some us) :
    All acc ∧ AV.denL ρ c'.cells = some (lay vs (e * sz + j) us) ∧ e * sz + j + us.length ≤ vs.length := by
  have hlu := denL_len hl
  have hlv := denL_len hd
  cases c with
  | exp cs =>
    simp only [setC] at h
    split at h
    · rename_i h1
      rw [force_eq] at h
      cases h
      have h2 : e * sz + j + l.length ≤ cs.length := Nat.le_of_ble_eq_true h1
      exact ⟨hc, denL_lay hd hl _, by rw [hlu, hlv]; exact h2⟩
    · cases h
  | ints k xs =>
    simp only [setC] at h
    split at h
    · split at h
      · rename_i k' x h1
        simp only [Bool.and_eq_true] at h1
        cases kEq_eq h1.1.1
        cases Nat.eq_of_beq_eq_true h1.1.2
        cases Nat.eq_of_beq_eq_true h1.2
        cases h
        obtain ⟨h2, h3⟩ := hc
        cases hl
        have ee : ∀ xs : List Int, (Cont.ints k xs).cells = (xs.map (Value.int k)).map AV.lit := by intro l; simp [Cont.cells]
        rw [ee, denL_lits] at hd ⊢
        cases hd
        refine ⟨h3, ?_, by simp; omega⟩
        rw [lay_one, List.map_set]
        simp
      · rename_i k' x _
        split at h
        · rename_i h1
          cases kEq_eq h1
          cases h
          obtain ⟨h2, h3⟩ := hc
          have h2 : e * sz + j < xs.length := h2
          cases hl
          have ee : ∀ xs : List Int, (Cont.ints k xs).cells = (xs.map (Value.int k)).map AV.lit := by intro l; simp [Cont.cells]
          rw [ee, denL_lits] at hd ⊢
          cases hd
          refine ⟨h3, ?_, by simp; omega⟩
          rw [lay_one, List.map_set]
        · cases h
    · cases h
  | bools xs =>
    simp only [setC] at h
    split at h
    · split at h
      · rename_i x h1
        simp only [Bool.and_eq_true] at h1
        cases Nat.eq_of_beq_eq_true h1.1
        cases Nat.eq_of_beq_eq_true h1.2
        cases h
        obtain ⟨h2, h3⟩ := hc
        cases hl
        have ee : ∀ xs : List Bool, (Cont.bools xs).cells = (xs.map Value.bool).map AV.lit := by intro l; simp [Cont.cells]
        rw [ee, denL_lits] at hd ⊢
        cases hd
        refine ⟨h3, ?_, by simp; omega⟩
        rw [lay_one, List.map_set]
        simp
      · cases h
    · cases h
  | gen n sz' get =>
    simp only [setC] at h
    split at h
    · rename_i ws hw
      split at h
      · rename_i h1
        simp only [Bool.and_eq_true] at h1
        obtain ⟨⟨h11, h12⟩, h13⟩ := h1
        cases Nat.eq_of_beq_eq_true h11
        have hjl : j + l.length ≤ sz := Nat.le_of_ble_eq_true h12
        have hsz : 0 < sz := Nat.le_of_ble_eq_true h13
        cases h
        obtain ⟨hge, h2, h3⟩ := hc
        have := litsOf_eq hw
        subst this
        rw [denL_lits] at hl
        cases hl
        have ee : ∀ (get : Nat → List Value), (Cont.gen n sz get).cells = ((List.range (n * sz)).map fun q => (get (q / sz)).getD (q % sz) undef).map AV.lit := by intro get; simp [Cont.cells]
        rw [ee, denL_lits] at hd ⊢
        cases hd
        have h4 : e * sz + sz ≤ n * sz := by
          have := Nat.mul_le_mul_right sz (show e + 1 ≤ n by omega)
          rw [Nat.add_mul] at this; omega
        have hjl' : j + us.length ≤ sz := by simpa using hjl
        refine ⟨h3, ?_, by simp; omega⟩
        congr 1
        refine List.ext_getElem? fun q => ?_
        rw [lay_at _ _ _ (by simp; omega)]
        by_cases hq : q < n * sz
        · have hdm := Nat.div_add_mod q sz
          have hml := Nat.mod_lt q hsz
          rw [Nat.mul_comm] at hdm
          simp only [List.getElem?_map, List.getElem?_range hq, Option.map_some]
          by_cases hqe : q / sz = e
          · rw [if_pos hqe, List.getD, lay_at _ _ _ (by omega)]
            rw [hqe] at hdm
            by_cases h5 : j ≤ q % sz ∧ q % sz < j + us.length
            · rw [if_pos h5, if_pos (by omega), show q - (e * sz + j) = q % sz - j by omega]
              have : q % sz - j < us.length := by omega
              simp [this]
            · rw [if_neg h5, if_neg (by omega)]
              rw [hqe]; rfl
          · rw [if_neg hqe, if_neg]
            intro h5
            apply hqe
            have : q < (e + 1) * sz := by rw [Nat.add_mul]; omega
            exact Nat.div_eq_of_lt_le (by omega) this
        · rw [if_neg (by omega), List.getElem?_eq_none (by simp; omega), List.getElem?_eq_none (by simp; omega)]
      · cases h
    · rw [force_eq] at h
      split at h
      · rename_i h1
        rw [force_eq] at h
        cases h
        have h2 : e * sz + j + l.length ≤ (Cont.gen n sz' get).cells.length := Nat.le_of_ble_eq_true h1
        exact ⟨hc, denL_lay hd hl _, by rw [hlu, hlv]; exact h2⟩
      · cases h
  | app c l => cases h
  | jbs j' n sz' hd' len => cases h
  | tbl j' n len ex =>
    simp only [setC] at h
    split at h
    · rename_i a h1
      simp only [Bool.and_eq_true] at h1
      cases h
      obtain ⟨h3, h4⟩ := hc
      have h3 : e < n := h3
      have : sz = 1 := Nat.eq_of_beq_eq_true h1.1
      subst this
      have : j = 0 := Nat.eq_of_beq_eq_true h1.2
      subst this
      obtain ⟨v, us', h5, h6, rfl⟩ := listO_some hl
      cases h6
      have hlen : vs.length = n := by rw [hlv]; simp [Cont.cells]
      refine ⟨h4, ?_, by simp; omega⟩
      rw [Nat.mul_one, Nat.add_zero, lay_one]
      have e1 : (Cont.tbl j' n len (some (e, a))).cells = (Cont.tbl j' n len none).cells.set e a := by
        refine List.ext_getElem? fun q => ?_
        simp only [Cont.cells, List.getElem?_map, List.getElem?_set, List.length_map, List.length_range, tblC]
        by_cases hq : q = e
        · subst hq
          simp [h3, tblC]
        · rw [if_neg (Ne.symm hq)]
          by_cases hqn : q < n
          · simp [hqn, hq, tblC]
          · simp [hqn]
      rw [e1]
      exact denL_set hd h5
    · cases h

def storeC (c : Chunk) (e sz j : Nat) (l : List AV) (acc : List Cd) : Option (Chunk × List Cd) :=
  match c with
  | .rb _ _ => none
  | .blk t cs => match Nat.ble (e * sz + j + l.length) cs.length with
    | true => forceK (lay cs (e * sz + j) l) [] fun cs' => some (.blk t cs', acc)
    | false => none
  | .row t n sz' c => match Nat.beq sz sz' with
    | true => match setC c e sz j l acc with
      | some (c', acc') => some (.row t n sz' c', acc')
      | none => none
    | false => none
  | .ro .. => none
  | .obj _ => none
  | .fam .. => none

/-- What a write makes of the world: one block of the chunk's is another. -/
theorem storeC_sound {P : Program} {ρ : Env} {i : Nat} {w : World} {c c' : Chunk} {e sz j : Nat} {l : List AV} {acc acc' : List Cd} {us : List Value} {L : Loc} {ad : Addr} (h : storeC c e sz j l acc = some (c', acc')) (hc : All acc') (hh : c.holds ρ i w)
    (hl : AV.denL ρ l = some us) (h1 : ∀ v ∈ us, v.oneCell' = true) (hL : ρ i = some L) (ha : L.ad = some ad) :
    All acc ∧ c.own = true ∧ c'.own = true ∧ ∃ cs, (storeCells (ad.add (e * sz + j)) us).run P w = .ok () (w.setRow ad.block cs) ∧ c'.holds ρ i (w.setRow ad.block cs) := by
  have key : ∀ {g : Nat} {t : TypeId} {cur : Array Value}, ad = ⟨g, 0, none⟩ → w.heap[g]? = some (.cells cur t (0, 0)) → e * sz + j + us.length ≤ cur.size →
      (storeCells (ad.add (e * sz + j)) us).run P w = .ok () (w.setRow ad.block (lay cur.toList (e * sz + j) us).toArray) := by
    intro g t cur hg hh hle
    subst hg
    have := run_storeCells_at P g (e * sz + j) t us 0 cur w hh (by omega) h1
    rw [addr_zero, this, lay_eq _ _ _ (by simpa using hle)]
    simp
  cases c with
  | rb t cs => cases h
  | blk t cs =>
    simp only [storeC] at h
    split at h
    · rename_i hle
      rw [force_eq] at h
      cases h
      obtain ⟨g, cap, vs, g1, g2, g3⟩ := hh
      rw [hL] at g1; cases g1; cases ha
      have hle : e * sz + j + l.length ≤ cs.length := Nat.le_of_ble_eq_true hle
      have e1 := denL_len hl
      have e2 := denL_len g2
      refine ⟨hc, rfl, rfl, _, key rfl g3 (by simp; omega), ?_⟩
      refine ⟨g, _, lay vs (e * sz + j) us, hL, denL_lay g2 hl _, ?_⟩
      simpa using setRow_heap w g _ _ t (0, 0) g3
    · cases h
  | row t n sz' c =>
    simp only [storeC] at h
    split at h
    · rename_i hs
      cases Nat.eq_of_beq_eq_true hs
      split at h
      · rename_i c1 acc1 h2
        cases h
        obtain ⟨L', vs, g1, g2, g3, g4⟩ := hh
        rw [hL] at g1; cases g1
        obtain ⟨h3, h4, h5⟩ := setC_sound h2 hc g2 hl
        rcases g4 with ⟨e1, e2⟩ | ⟨g, cap, cur, e1, e2, e3, e4, e5, e6, e7⟩
        · injection e1 with e1; rw [ha] at e1; cases e1
        · injection e1 with e1 e8 e9
          rw [ha] at e1; cases e1
          have hcur : vs.length ≤ cur.size := by rw [← e7]; simp; omega
          refine ⟨h3, rfl, rfl, _, key rfl e3 (by omega), ?_⟩
          refine ⟨L, _, hL, h4, by rw [lay_len]; exact g3, .inr ⟨g, cap, _, by rw [ha, e9], e2, setRow_heap w g _ _ t (0, 0) e3, e4, e5, by simp [lay_len, e6], ?_⟩⟩
          rw [List.toList_toArray]
          refine List.ext_getElem? fun q => ?_
          by_cases hq : q < n * sz
          · rw [List.getElem?_take_of_lt hq, lay_at _ _ _ (by simp; omega), lay_at _ _ _ h5]
            split
            · rfl
            · rw [← e7, List.getElem?_take_of_lt hq]
          · rw [List.getElem?_eq_none (by simp; omega), List.getElem?_eq_none (by rw [lay_len]; omega)]
      · cases h
    · cases h
  | ro n sz' c => cases h
  | obj k => cases h
  | fam => cases h

end Go.Sym
