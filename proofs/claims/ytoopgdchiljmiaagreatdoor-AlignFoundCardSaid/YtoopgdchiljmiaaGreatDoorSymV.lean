/- What the table of a run does not know: bits, floats, complex numbers, whole structs and arrays compared. No program in sight. -/
import Derived.ChangeKeysEq
import Derived.Laws.StructEq
import Derived.Test.YtoopgdchiljmiaaGreatDoorSymP
set_option linter.unusedVariables false
set_option linter.unusedSimpArgs false
namespace Go.Sym
open Go.RowKit

def partV (P : Program) (t : TypeId) (cs : Array Value) (off : Nat) : Option Value :=
  match P.underlying t, P.info? t with
  | some d, some i => match isAggD d with
    | true => some (.agg (cs.extract off (off + i.size)))
    | false => cs[off]?
  | _, _ => none
theorem partV_run {P : Program} {t : TypeId} {cs : Array Value} {off : Nat} {v : Value} (h : partV P t cs off = some v) (w : World) : (part t cs off).run P w = .ok v w := by
  unfold partV at h
  split at h
  · rename_i d i h1 h2
    have ha : (isAgg t).run P w = .ok (isAggD d) w := by
      simp only [isAgg, Sem.run_bind, run_underlying h1, Result.andThen_ok]
      cases d <;> rfl
    have hs : (sizeOf t).run P w = .ok i.size w := by simp [sizeOf, typeInfo, h2]
    split at h
    · rename_i hb
      cases h
      simp [part, ha, hb, hs]
    · rename_i hb
      simp [part, ha, hb, h]
  · cases h

def eqFs (eq : TypeId → Value → Value → Option Bool) (P : Program) (xs ys : Array Value) : List Field → Option Bool
  | [] => some true
  | f :: fs => match f.name != "_" with
    | true => match partV P f.type xs f.offset, partV P f.type ys f.offset with
      | some a, some b => match eq f.type a b with
        | some true => eqFs eq P xs ys fs
        | some false => some false
        | none => none
      | _, _ => none
    | false => eqFs eq P xs ys fs
def eqIs (eq : TypeId → Value → Value → Option Bool) (P : Program) (e : TypeId) (c : Nat) (xs ys : Array Value) : List Nat → Option Bool
  | [] => some true
  | i :: is => match partV P e xs (i * c), partV P e ys (i * c) with
    | some a, some b => match eq e a b with
      | some true => eqIs eq P e c xs ys is
      | some false => some false
      | none => none
    | _, _ => none
/-- Whether two values of a type are equal. -/
def eqT (P : Program) : Nat → TypeId → Value → Value → Option Bool
  | 0, _, _, _ => none
  | d + 1, t, x, y => match P.underlying t, x, y with
    | some .bool, .bool a, .bool b => some (a == b)
    | some (.int _), .int k a, .int k' b => match decide (k = k') with | true => some (a == b) | false => none
    | some (.float _), .float k a, .float k' b => match decide (k = k') with | true => some (Op.floatEq k a b) | false => none
    | some (.complex _), .complex k a b, .complex k' a' b' => match decide (k = k') with | true => some (Op.floatEq k a a' && Op.floatEq k b b') | false => none
    | some .string, .string a, .string b => some (a == b)
    | some (.struct fs), .agg xs, .agg ys => match P.stoodInHeld t with
      | false => eqFs (eqT P d) P xs ys fs.toList
      | true => none
    | some (.array n e), .agg xs, .agg ys => match P.info? e with
      | some i => eqIs (eqT P d) P e i.size xs ys (List.range n)
      | none => none
    | _, _, _ => none

section
variable {P : Program}
theorem eqFs_run {eq : TypeId → Value → Value → Option Bool} {D : Nat} {w : World} (h : ∀ t x y b, eq t x y = some b → (Op.equalIn D t x y).run P w = .ok b w) {xs ys : Array Value} : ∀ {fs : List Field} {b : Bool}, eqFs eq P xs ys fs = some b → (Op.eqFields D xs ys fs).run P w = .ok b w
  | [], b, e => by cases e; simp [Op.eqFields]
  | f :: fs, b, e => by
    simp only [eqFs] at e
    split at e
    · rename_i hn
      have hn' : f.name ≠ "_" := by simpa using hn
      split at e
      · rename_i x y h1 h2
        simp only [Op.eqFields, if_pos hn', Sem.run_bind, partV_run h1 w, partV_run h2 w, Result.andThen_ok]
        split at e
        · rename_i h3
          simp only [h _ _ _ _ h3, Result.andThen_ok, Bool.not_true, Bool.false_eq_true, if_false]
          exact eqFs_run h e
        · rename_i h3
          cases e
          simp only [h _ _ _ _ h3, Result.andThen_ok, Bool.not_false, if_true, Sem.run_pure]
        · cases e
      · cases e
    · rename_i hn
      have hn' : ¬ f.name ≠ "_" := by simpa using hn
      simp only [Op.eqFields, if_neg hn']
      exact eqFs_run h e
theorem eqIs_run {eq : TypeId → Value → Value → Option Bool} {D : Nat} {w : World} (h : ∀ t x y b, eq t x y = some b → (Op.equalIn D t x y).run P w = .ok b w) {e : TypeId} {c : Nat} {xs ys : Array Value} : ∀ {is : List Nat} {b : Bool}, eqIs eq P e c xs ys is = some b → (Op.eqItems D e c xs ys is).run P w = .ok b w
  | [], b, he => by cases he; simp [Op.eqItems]
  | f :: fs, b, he => by
    simp only [eqIs] at he
    split at he
    · rename_i x y h1 h2
      simp only [Op.eqItems, Sem.run_bind, partV_run h1 w, partV_run h2 w, Result.andThen_ok]
      split at he
      · rename_i h3
        simp only [h _ _ _ _ h3, Result.andThen_ok, Bool.not_true, Bool.false_eq_true, if_false]
        exact eqIs_run h he
      · rename_i h3
        cases he
        simp only [h _ _ _ _ h3, Result.andThen_ok, Bool.not_false, if_true, Sem.run_pure]
      · cases he
    · cases he
theorem eqT_run {w : World} : ∀ {n D : Nat} {t : TypeId} {x y : Value} {b : Bool}, n ≤ D → eqT P n t x y = some b → (Op.equalIn D t x y).run P w = .ok b w
  | 0, D, t, x, y, b, hD, h => by cases h
  | n + 1, 0, t, x, y, b, hD, h => by omega
  | n + 1, D + 1, t, x, y, b, hD, h => by
    simp only [eqT] at h
    split at h
    · rename_i hu; cases h; simp [Op.equalIn, run_underlying hu]
    · rename_i k a k' b' hu
      split at h
      · rename_i hk; cases h; simp [Op.equalIn, run_underlying hu, of_decide_eq_true hk]
      · cases h
    · rename_i k a k' b' hu
      split at h
      · rename_i hk; cases h; simp [Op.equalIn, run_underlying hu, of_decide_eq_true hk]
      · cases h
    · rename_i hu
      split at h
      · rename_i hk; cases h; simp [Op.equalIn, run_underlying hu, of_decide_eq_true hk]
      · cases h
    · rename_i hu; cases h; simp [Op.equalIn, run_underlying hu]
    · rename_i fs xs ys hu
      split at h
      · rename_i hst
        have hf : P.fieldsOf t = fs := by simp [Program.fieldsOf, hu]
        rw [run_equalIn_struct w D t xs ys (by rw [hf]; exact hu) hst, hf]
        exact eqFs_run (fun t x y b e => eqT_run (by omega) e) h
      · cases h
    · rename_i m e xs ys hu
      split at h
      · rename_i i hi
        rw [run_equalIn_array w D xs ys hu hi]
        have : P.cellsOf e = i.size := by simp [Program.cellsOf, hi]
        rw [this]
        exact eqIs_run (fun t x y b e => eqT_run (by omega) e) h
      · cases h
    · cases h
end

/-- A binary operation on values that are there. -/
def binV (P : Program) (op : BinOp) (t : TypeId) (x y : Value) : Option Value :=
  match op, x, y with
  | .shl, .int k a, .int _ b => match decide (b < 0) with | false => some (.int k (k.wrap (a * 2 ^ (min b.toNat k.bits)))) | true => none
  | .shr, .int k a, .int _ b => match decide (b < 0) with | false => some (.int k (a.fdiv (2 ^ (min b.toNat k.bits)))) | true => none
  | .and, .int k a, .int k' b => match decide (k = k') with | true => some (.int k (k.wrap (BitVec.ofInt k.bits a &&& BitVec.ofInt k.bits b).toNat)) | false => none
  | .or, .int k a, .int k' b => match decide (k = k') with | true => some (.int k (k.wrap (BitVec.ofInt k.bits a ||| BitVec.ofInt k.bits b).toNat)) | false => none
  | .xor, .int k a, .int k' b => match decide (k = k') with | true => some (.int k (k.wrap (BitVec.ofInt k.bits a ^^^ BitVec.ofInt k.bits b).toNat)) | false => none
  | .mul, .int k a, .int k' b => match decide (k = k') with | true => some (.int k (k.wrap (a * b))) | false => none
  | .add, .int k a, .int k' b => match decide (k = k') with | true => some (.int k (k.wrap (a + b))) | false => none
  | .sub, .int k a, .int k' b => match decide (k = k') with | true => some (.int k (k.wrap (a - b))) | false => none
  | .add, .float k a, .float k' b => match decide (k = k') with | true => (k.format.add a b).map (.float k) | false => none
  | .sub, .float k a, .float k' b => match decide (k = k') with | true => (k.format.sub a b).map (.float k) | false => none
  | .mul, .float k a, .float k' b => match decide (k = k') with | true => (k.format.mul a b).map (.float k) | false => none
  | .quo, .float k a, .float k' b => match decide (k = k') with | true => (k.format.div a b).map (.float k) | false => none
  | .eql, .float k a, .float k' b => match decide (k = k') with | true => some (.bool (k.format.order a b == some .eq)) | false => none
  | .neq, .float k a, .float k' b => match decide (k = k') with | true => some (.bool (k.format.order a b != some .eq)) | false => none
  | .lss, .float k a, .float k' b => match decide (k = k') with | true => some (.bool (k.format.order a b == some .lt)) | false => none
  | .gtr, .float k a, .float k' b => match decide (k = k') with | true => some (.bool (k.format.order a b == some .gt)) | false => none
  | .leq, .float k a, .float k' b => match decide (k = k') with | true => some (.bool (k.format.order a b == some .lt || k.format.order a b == some .eq)) | false => none
  | .geq, .float k a, .float k' b => match decide (k = k') with | true => some (.bool (k.format.order a b == some .gt || k.format.order a b == some .eq)) | false => none
  | .lss, .string a, .string b => some (.bool (Op.bytesLess a.toList b.toList))
  | .gtr, .string a, .string b => some (.bool (!(Op.bytesLess a.toList b.toList || a.toList == b.toList)))
  | .leq, .string a, .string b => some (.bool (Op.bytesLess a.toList b.toList || a.toList == b.toList))
  | .geq, .string a, .string b => some (.bool (!Op.bytesLess a.toList b.toList))
  | .add, .complex .f64 a b, .complex .f64 c d => match FloatKind.f64.format.add a c, FloatKind.f64.format.add b d with
    | some r, some i => some (.complex .f64 r i)
    | _, _ => none
  | .sub, .complex .f64 a b, .complex .f64 c d => match FloatKind.f64.format.sub a c, FloatKind.f64.format.sub b d with
    | some r, some i => some (.complex .f64 r i)
    | _, _ => none
  | .mul, .complex .f64 a b, .complex .f64 c d => match FloatKind.f64.format.mul a c, FloatKind.f64.format.mul b d, FloatKind.f64.format.mul a d, FloatKind.f64.format.mul b c with
    | some ac, some bd, some ad, some bc => match FloatKind.f64.format.sub ac bd, FloatKind.f64.format.add ad bc with
      | some r, some i => some (.complex .f64 r i)
      | _, _ => none
    | _, _, _, _ => none
  | .eql, .agg a, .agg b => match P.eqGuardType P.depth t, eqT P 20 t (.agg a) (.agg b) with
    | false, some r => some (.bool r)
    | _, _ => none
  | .neq, .agg a, .agg b => match P.eqGuardType P.depth t, eqT P 20 t (.agg a) (.agg b) with
    | false, some r => some (.bool (!r))
    | _, _ => none
  | _, _, _ => none
theorem binV_run {P : Program} {op : BinOp} {t : TypeId} {x y v : Value} (h : binV P op t x y = some v) (xo yo : Operand) (w : World) : (do eqGuard op t xo yo x y; binOp op t x y).run P w = .ok v w := by
  unfold binV at h
  split at h
  case h_1 | h_2 =>
    split at h
    · rename_i hb
      have hb' := of_decide_eq_false hb
      cases h
      simp [eqGuard, binOp, Op.shift, hb']
    · cases h
  case h_3 | h_4 | h_5 | h_6 | h_7 | h_8 =>
    split at h
    · rename_i hk
      have hk := of_decide_eq_true hk
      subst hk
      cases h
      simp [eqGuard, binOp, Op.intBits, Op.intArith]
    · cases h
  case h_9 | h_10 | h_11 | h_12 =>
    split at h
    · rename_i hk
      have hk := of_decide_eq_true hk
      subst hk
      simp only [Option.map_eq_some_iff] at h
      obtain ⟨r, h1, rfl⟩ := h
      simp [eqGuard, binOp, Op.floatArith, h1]
    · cases h
  case h_13 | h_14 | h_15 | h_16 | h_17 | h_18 =>
    split at h
    · rename_i hk
      have hk := of_decide_eq_true hk
      subst hk
      cases h
      simp [eqGuard, binOp, Op.floatCmp]
    · cases h
  case h_19 | h_20 | h_21 | h_22 =>
    cases h
    simp [eqGuard, binOp, Op.stringOp]
  case h_23 | h_24 =>
    split at h
    · rename_i r i h1 h2
      cases h
      simp [eqGuard, binOp, Op.complexOp, Op.Complex.arith, Op.floatArith, h1, h2]
    · cases h
  case h_25 =>
    split at h
    · rename_i ac bd ad bc h1 h2 h3 h4
      split at h
      · rename_i r i h5 h6
        cases h
        simp [eqGuard, binOp, Op.complexOp, Op.Complex.product, Op.Complex.conv, Op.Complex.mul, Op.Complex.sub, Op.Complex.add, Op.Complex.arith, Op.floatArith, h1, h2, h3, h4, h5, h6]
      · cases h
    · cases h
  case h_26 =>
    split at h
    · rename_i r h1 h2
      cases h
      have h3 := eqT_run (w := w) (D := Op.maxDepth) (by decide) h2
      simp [run_eqGuard_agg, h1, binOp, Op.equal, h3]
    · cases h
  case h_27 =>
    split at h
    · rename_i r h1 h2
      cases h
      have h3 := eqT_run (w := w) (D := Op.maxDepth) (by decide) h2
      simp [run_eqGuard_agg, h1, binOp, Op.equal, h3]
    · cases h
  case h_28 => cases h

def unV (op : UnOp) (x : Value) : Option Value :=
  match op, x with
  | .neg, .int k n => some (.int k (k.wrap (0 - n)))
  | .neg, .float k b => some (.float k (Op.negFloat k b))
  | .neg, .complex k re im => some (.complex k (Op.negFloat k re) (Op.negFloat k im))
  | .xor, .int k n => some (.int k (k.wrap (BitVec.ofInt k.bits (if k.signed then -1 else k.max) ^^^ BitVec.ofInt k.bits n).toNat))
  | _, _ => none
theorem unV_run {P : Program} {op : UnOp} {x v : Value} (h : unV op x = some v) (w : World) : (Op.unary op x).run P w = .ok v w := by
  unfold unV at h
  split at h
  · cases h; simp [Op.unary, Op.intArith]
  · cases h; simp [Op.unary]
  · cases h; simp [Op.unary]
  · cases h; simp [Op.unary, Op.intBits]
  · cases h

def convV (P : Program) (s d : TypeId) (x : Value) : Option Value :=
  match P.underlying s, P.underlying d, x with
  | some _, some (.int k), .int _ n => some (.int k (k.wrap n))
  | some _, some (.int k), .float f b => match (f.decode b).toInt .zero with
    | some n => match decide (k.min ≤ n ∧ n ≤ k.max) with | true => some (.int k n) | false => none
    | none => none
  | some _, some (.float k), .float f b => match decide (f = k) with
    | true => some (.float k b)
    | false => match f.decode b with
      | .infinity g => some (.float k (k.encode (.infinity g)))
      | .number g m e => match (k.decode (k.encode (.number g m e))).isInfinity with | true => none | false => some (.float k (k.encode (.number g m e)))
      | _ => none
  | _, _, _ => none
theorem convV_run {P : Program} {s d : TypeId} {x v : Value} (h : convV P s d x = some v) (w : World) : (convert s d x).run P w = .ok v w := by
  unfold convV at h
  split at h
  · rename_i hs hd; cases h; simp [convert, run_underlying hs, run_underlying hd, Conv.intToInt]
  · rename_i hs hd
    split at h
    · rename_i n hn
      split at h
      · rename_i hb
        cases h
        simp only [convert, Sem.run_bind, run_underlying hs, run_underlying hd, Result.andThen_ok, Conv.floatToInt, hn, if_pos (of_decide_eq_true hb), Sem.run_pure]
      · cases h
    · cases h
  · rename_i hs hd
    split at h
    · rename_i hk
      cases h
      simp only [convert, Sem.run_bind, run_underlying hs, run_underlying hd, Result.andThen_ok, Conv.floatToFloat, if_pos (of_decide_eq_true hk), Sem.run_pure]
    · rename_i hk
      have hk' := of_decide_eq_false hk
      split at h
      · rename_i g hg
        cases h
        simp only [convert, Sem.run_bind, run_underlying hs, run_underlying hd, Result.andThen_ok, Conv.floatToFloat, if_neg hk', hg, Sem.run_pure]
      · rename_i g m e hg
        split at h
        · cases h
        · rename_i hi
          cases h
          simp only [convert, Sem.run_bind, run_underlying hs, run_underlying hd, Result.andThen_ok, Conv.floatToFloat, if_neg hk', hg, hi, Bool.false_eq_true, if_false, Sem.run_pure]
      · cases h
  · cases h

def indexV (P : Program) (t : TypeId) (x i : Value) : Option Value :=
  match P.underlying t, x, i with
  | some (.array len e), .agg cs, .int _ n => match decide (0 ≤ n ∧ n < len), P.info? e with
    | true, some ti => partV P e cs (n.toNat * ti.size)
    | _, _ => none
  | some .string, .string s, .int _ n => match decide (0 ≤ n) with
    | true => (s[n.toNat]?).map fun b => .int .u8 b.toNat
    | false => none
  | _, _, _ => none
theorem indexV_run {P : Program} {t : TypeId} {x i v : Value} (h : indexV P t x i = some v) (w : World) : (Instr.index t x i).run P w = .ok v w := by
  unfold indexV at h
  split at h
  · rename_i len e cs k n hu
    split at h
    · rename_i ti hb hi
      have hb := of_decide_eq_true hb
      have hs : (sizeOf e).run P w = .ok ti.size w := by simp [sizeOf, typeInfo, hi]
      simp only [Instr.index, asIntOf, Sem.run_bind, Sem.run_pure, Result.andThen_ok, run_underlying hu, if_pos hb, hs, partV_run h w]
    · cases h
  · rename_i s k n hu
    split at h
    · rename_i hb
      have hb := of_decide_eq_true hb
      simp only [Option.map_eq_some_iff] at h
      obtain ⟨b, h1, rfl⟩ := h
      simp only [Instr.index, asIntOf, Sem.run_bind, Sem.run_pure, Result.andThen_ok, run_underlying hu, if_pos hb, h1]
    · cases h
  · cases h
def fieldV (P : Program) (t : TypeId) (x : Value) (f : Nat) : Option Value :=
  match P.underlying t, x with
  | some (.struct fs), .agg cs => match fs[f]? with
    | some fd => partV P fd.type cs fd.offset
    | none => none
  | _, _ => none
theorem fieldV_run {P : Program} {t : TypeId} {x v : Value} {f : Nat} (h : fieldV P t x f = some v) (w : World) : (Instr.field t x f).run P w = .ok v w := by
  unfold fieldV at h
  split at h
  · rename_i fs cs hu
    split at h
    · rename_i fd hf
      simp only [Instr.field, Sem.run_bind, Result.andThen_ok, run_underlying hu, hf, asAgg, Sem.run_pure, partV_run h w]
    · cases h
  · cases h

/-- A field of a struct that holds references. -/
def fieldS (P : Program) (t : TypeId) (m : List AV) (f : Nat) : Option AV :=
  match P.underlying t with
  | some (.struct fs) => match fs[f]? with
    | some fd => match P.underlying fd.type, P.info? fd.type with
      | some d, some i => match isAggD d with
        | true => some (.agg ((m.drop fd.offset).take i.size))
        | false => m[fd.offset]?
      | _, _ => none
    | none => none
  | _ => none
theorem fieldS_sound {P : Program} {t : TypeId} {m : List AV} {r : AV} {f : Nat} {ρ : Env} {vs : List Value} (h : fieldS P t m f = some r) (hd : AV.denL ρ m = some vs) : ∃ v, r.den ρ = some v ∧ fieldV P t (.agg vs.toArray) f = some v := by
  unfold fieldS at h
  split at h
  · rename_i fs hu
    split at h
    · rename_i fd hf
      split at h
      · rename_i d i h1 h2
        split at h
        · rename_i hb
          cases h
          refine ⟨.agg (((vs.drop fd.offset).take i.size).toArray), ?_, ?_⟩
          · simp only [AV.den, (denL_take i.size (denL_take fd.offset hd).2).1, Option.map_some]
          · simp only [fieldV, hu, hf, partV, h1, h2, hb, List.extract_toArray, List.extract_eq_take_drop, Nat.add_sub_cancel_left]
        · rename_i hb
          obtain ⟨v, h3, h4⟩ := denL_at hd h
          exact ⟨v, h3, by simp only [fieldV, hu, hf, partV, h1, h2, hb]; simpa using h4⟩
      · cases h
    · cases h
  · cases h

def custV (P : Program) : Custom := ⟨fun o l => match AV.denL (fun _ => none) l with
  | some vs => match o.op, vs with
    | .binOp op t _ _ _, [x, y] => (binV P op t x y).map AV.lit
    | .unOp op _ _, [x] => (unV op x).map AV.lit
    | .convert s d _, [x] => (convV P s d x).map AV.lit
    | .index t _ _, [x, i] => (indexV P t x i).map AV.lit
    | .field t _ f, [x] => (fieldV P t x f).map AV.lit
    | _, _ => none
  | none => match o.op, l with
    | .field t _ f, [.agg m] => fieldS P t m f
    | _, _ => none⟩
theorem custV_ok (P : Program) : (custV P).ok P := by
  intro o l r h ρ w e vs hd hv
  dsimp only [custV] at h
  split at h
  · rename_i us hu
    have hle : Env.le (fun _ => none) ρ := fun i L e => by cases e
    have := AV.denL_mono hle _ _ hu
    rw [this] at hd
    cases hd
    split at h
    · rename_i op t x y yt a b ho
      simp only [Option.map_eq_some_iff] at h
      obtain ⟨v, h1, rfl⟩ := h
      rw [ho] at hv
      simp only [Op.operands, List.map_cons, List.map_nil, List.cons.injEq, and_true] at hv
      obtain ⟨rfl, rfl⟩ := hv
      refine ⟨v, by simp [AV.den], ?_⟩
      have := binV_run h1 x y w
      simp only [execOp, ho, Sem.run_bind] at this ⊢
      rw [this]
      rfl
    · rename_i op t x a ho
      simp only [Option.map_eq_some_iff] at h
      obtain ⟨v, h1, rfl⟩ := h
      rw [ho] at hv
      simp only [Op.operands, List.map_cons, List.map_nil, List.cons.injEq, and_true] at hv
      subst hv
      refine ⟨v, by simp [AV.den], ?_⟩
      simp only [execOp, ho, Sem.run_bind, unV_run h1 w]
      rfl
    · rename_i s d x a ho
      simp only [Option.map_eq_some_iff] at h
      obtain ⟨v, h1, rfl⟩ := h
      rw [ho] at hv
      simp only [Op.operands, List.map_cons, List.map_nil, List.cons.injEq, and_true] at hv
      subst hv
      refine ⟨v, by simp [AV.den], ?_⟩
      simp only [execOp, ho, Sem.run_bind, convV_run h1 w]
      rfl
    · rename_i t x y a b ho
      simp only [Option.map_eq_some_iff] at h
      obtain ⟨v, h1, rfl⟩ := h
      rw [ho] at hv
      simp only [Op.operands, List.map_cons, List.map_nil, List.cons.injEq, and_true] at hv
      obtain ⟨rfl, rfl⟩ := hv
      refine ⟨v, by simp [AV.den], ?_⟩
      simp only [execOp, ho, Sem.run_bind, indexV_run h1 w]
      rfl
    · rename_i t x f a ho
      simp only [Option.map_eq_some_iff] at h
      obtain ⟨v, h1, rfl⟩ := h
      rw [ho] at hv
      simp only [Op.operands, List.map_cons, List.map_nil, List.cons.injEq, and_true] at hv
      subst hv
      refine ⟨v, by simp [AV.den], ?_⟩
      simp only [execOp, ho, Sem.run_bind, fieldV_run h1 w]
      rfl
    · cases h
  · rename_i hnn
    clear hnn
    split at h
    · rename_i t x f m ho
      rw [ho] at hv
      simp only [Op.operands, List.map_cons, List.map_nil] at hv
      subst hv
      simp only [AV.denL] at hd
      obtain ⟨a, b, h1, h2, h3⟩ := listO_some hd
      cases h2
      cases h3
      simp only [AV.den, Option.map_eq_some_iff] at h1
      obtain ⟨us, h4, h5⟩ := h1
      obtain ⟨v, h6, h7⟩ := fieldS_sound h h4
      refine ⟨v, h6, ?_⟩
      rw [h5] at h7
      simp only [execOp, ho, Sem.run_bind, fieldV_run h7 w]
      rfl
    · cases h

end Go.Sym
