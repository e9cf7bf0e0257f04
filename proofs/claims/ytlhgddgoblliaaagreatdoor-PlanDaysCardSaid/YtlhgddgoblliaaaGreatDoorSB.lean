/- Symbolic runs of Go code, second part: stores, calls, regions, code. No program in sight. -/
import Derived.Test.YtlhgddgoblliaaaGreatDoorSA
import Derived.OrdersIn
import Derived.Deep.AppendSrc
import Derived.Deep.Upon
import Derived.Lib.AppendZeros
set_option linter.unusedVariables false
set_option linter.unusedSimpArgs false
namespace Go.Sym
open Go.RowKit

def setA {α : Type} (i : Nat) (c : α) : List (Nat × α) → List (Nat × α)
  | [] => []
  | (j, d) :: l => match Nat.beq i j with | true => (j, c) :: setA i c l | false => (j, d) :: setA i c l
def delA {α : Type} (i : Nat) : List (Nat × α) → List (Nat × α)
  | [] => []
  | (j, d) :: l => match Nat.beq i j with | true => delA i l | false => (j, d) :: delA i l
theorem look_setA {α : Type} (i : Nat) (c : α) : ∀ (l : List (Nat × α)) (k : Nat), look k (setA i c l) = if k = i then (look i l).map (fun _ => c) else look k l
  | [], k => by simp [setA, look]
  | (j, d) :: l, k => by
    simp only [setA]
    split
    · rename_i e
      cases Nat.eq_of_beq_eq_true e
      rw [look_cons, look_setA i c l k, look_cons, look_cons]
      by_cases hk : k = i <;> simp [hk]
    · rename_i e
      have hij : i ≠ j := fun h => by subst h; simp at e
      rw [look_cons, look_setA i c l k, look_cons, look_cons]
      by_cases hk : k = i
      · subst hk; simp [hij]
      · simp [hk]
theorem look_delA {α : Type} (i : Nat) : ∀ (l : List (Nat × α)) (k : Nat), look k (delA i l) = if k = i then none else look k l
  | [], k => by simp [delA, look]
  | (j, d) :: l, k => by
    simp only [delA]
    split
    · rename_i e
      cases Nat.eq_of_beq_eq_true e
      rw [look_delA i l k, look_cons]
      by_cases hk : k = i <;> simp [hk]
    · rename_i e
      have hij : i ≠ j := fun h => by subst h; simp at e
      rw [look_cons, look_delA i l k, look_cons]
      by_cases hk : k = i
      · subst hk; simp [hij]
      · simp [hk]

/-- A content behind another one. -/
def catC : Cont → Cont → Cont
  | .ints k xs, .ints k' ys => match kEq k k' with | true => .ints k (xs ++ ys) | false => .app (.ints k xs) (Cont.ints k' ys).cells
  | .ints k xs, .exp [.lit (.int k' y)] => match kEq k k' with | true => .ints k (xs ++ [y]) | false => .app (.ints k xs) [.lit (.int k' y)]
  | .bools xs, .bools ys => .bools (xs ++ ys)
  | .bools xs, .exp [.lit (.bool y)] => .bools (xs ++ [y])
  | .exp xs, .exp ys => forceK (xs ++ ys) [] .exp
  | .exp xs, d => match xs with | [] => d | x :: xs => .app (.exp (x :: xs)) d.cells
  | c, d => .app c d.cells
theorem catC_cells (c d : Cont) : (catC c d).cells = c.cells ++ d.cells := by
  unfold catC
  split
  · split
    · rename_i h; cases kEq_eq h; simp [Cont.cells]
    · simp [Cont.cells]
  · split
    · rename_i h; cases kEq_eq h; simp [Cont.cells]
    · simp [Cont.cells]
  · simp [Cont.cells]
  · simp [Cont.cells]
  · rw [force_eq]; simp [Cont.cells]
  · split
    · simp [Cont.cells]
    · simp [Cont.cells]
  · simp [Cont.cells]

/-- All cells of a content are plain. -/
def oneC (c : Cont) (acc : List Cd) : Option (List Cd) :=
  match c with
  | .exp l => match oneL l with | true => some acc | false => none
  | .ints _ _ | .bools _ => some acc
  | .gen n sz get => some (cp (∀ q, q < n * sz → ((get (q / sz)).getD (q % sz) undef).oneCell' = true) :: acc)
  | .app c l => match oneL l with | true => oneC c acc | false => none
  | .tbl _ _ _ none => some acc
  | .tbl _ _ _ (some _) => none
  | .jbs _ n sz hd _ => some (cp (∀ q, q < n * sz → q % sz + 1 ≠ sz → ((hd (q / sz)).getD (q % sz) undef).oneCell' = true) :: acc)
theorem oneC_acc : ∀ {c : Cont} {acc acc' : List Cd}, oneC c acc = some acc' → All acc' → All acc
  | .exp l, acc, acc', h, hc => by simp only [oneC] at h; split at h <;> cases h; exact hc
  | .ints _ _, acc, acc', h, hc => by cases h; exact hc
  | .bools _, acc, acc', h, hc => by cases h; exact hc
  | .gen _ _ _, acc, acc', h, hc => by cases h; exact hc.2
  | .app c l, acc, acc', h, hc => by
    simp only [oneC] at h
    split at h
    · exact oneC_acc h hc
    · cases h
  | .tbl _ _ _ none, acc, acc', h, hc => by cases h; exact hc
  | .jbs .., acc, acc', h, hc => by cases h; exact hc.2
  | .tbl _ _ _ (some _), acc, acc', h, hc => by cases h
theorem tbl_one {ρ : Env} {j : Nat} {len : Nat → Nat} : ∀ {l : List Nat} {vs : List Value}, AV.denL ρ (l.map (tblC j len none)) = some vs → ∀ v ∈ vs, v.oneCell' = true
  | [], vs, hd, v, hv => by cases hd; cases hv
  | q :: l, vs, hd, v, hv => by
    simp only [List.map_cons, AV.denL] at hd
    obtain ⟨u, us, h1, h2, rfl⟩ := listO_some hd
    rcases List.mem_cons.1 hv with rfl | hv
    · exact oneA_den (a := tblC j len none q) rfl h1
    · exact tbl_one h2 v hv
theorem jbs_one {ρ : Env} {j sz : Nat} {hd : Nat → List Value} {len : Nat → Nat} : ∀ {l : List Nat} {vs : List Value}, (∀ q ∈ l, q % sz + 1 ≠ sz → ((hd (q / sz)).getD (q % sz) undef).oneCell' = true) → AV.denL ρ (l.map (jbsC j sz hd len)) = some vs → ∀ v ∈ vs, v.oneCell' = true
  | [], vs, _, hd, v, hv => by cases hd; cases hv
  | q :: l, vs, h, hd', v, hv => by
    simp only [List.map_cons, AV.denL] at hd'
    obtain ⟨u, us, h1, h2, rfl⟩ := listO_some hd'
    rcases List.mem_cons.1 hv with rfl | hv
    · unfold jbsC at h1
      split at h1
      · simp only [AV.den, Option.bind_eq_some_iff] at h1
        obtain ⟨L, _, h3⟩ := h1
        rcases Tb.den_one h3 with ⟨a, n, c, rfl⟩ | ⟨a, rfl⟩ <;> rfl
      · rename_i hne
        simp only [AV.den, Option.some.injEq] at h1
        subst h1
        exact h q List.mem_cons_self hne
    · exact jbs_one (fun q hq => h q (List.mem_cons_of_mem _ hq)) h2 v hv
theorem oneC_sound {ρ : Env} : ∀ {c : Cont} {acc acc' : List Cd} {vs : List Value}, oneC c acc = some acc' → All acc' → AV.denL ρ c.cells = some vs → ∀ v ∈ vs, v.oneCell' = true
  | .exp l, acc, acc', vs, h, hc, hd => by
    simp only [oneC] at h
    split at h
    · exact oneL_den (by assumption) hd
    · cases h
  | .ints k l, acc, acc', vs, h, hc, hd => by
    have ee : (Cont.ints k l).cells = (l.map (Value.int k)).map AV.lit := by simp [Cont.cells]
    rw [ee, denL_lits] at hd
    cases hd
    intro v hv
    obtain ⟨x, _, rfl⟩ := List.mem_map.1 hv
    rfl
  | .bools l, acc, acc', vs, h, hc, hd => by
    have ee : (Cont.bools l).cells = (l.map Value.bool).map AV.lit := by simp [Cont.cells]
    rw [ee, denL_lits] at hd
    cases hd
    intro v hv
    obtain ⟨x, _, rfl⟩ := List.mem_map.1 hv
    rfl
  | .gen n sz get, acc, acc', vs, h, hc, hd => by
    cases h
    have ee : (Cont.gen n sz get).cells = ((List.range (n * sz)).map fun q => (get (q / sz)).getD (q % sz) undef).map AV.lit := by simp [Cont.cells]
    rw [ee, denL_lits] at hd
    cases hd
    intro v hv
    obtain ⟨x, hx, rfl⟩ := List.mem_map.1 hv
    exact hc.1 x (List.mem_range.1 hx)
  | .app c l, acc, acc', vs, h, hc, hd => by
    simp only [oneC] at h
    split at h
    · rename_i h1
      have hlen : ∀ {m : List AV} {l : List AV} {vs : List Value}, AV.denL ρ (m ++ l) = some vs → ∃ a b, AV.denL ρ m = some a ∧ AV.denL ρ l = some b ∧ vs = a ++ b := by
        intro m
        induction m with
        | nil => intro l vs h; exact ⟨[], vs, rfl, h, rfl⟩
        | cons x m ih =>
          intro l vs h
          simp only [List.cons_append, AV.denL] at h
          obtain ⟨v, ws, h1, h2, rfl⟩ := listO_some h
          obtain ⟨a, b, h3, h4, rfl⟩ := ih h2
          exact ⟨v :: a, b, by simp only [AV.denL, h1, h3]; rfl, h4, rfl⟩
      obtain ⟨a, b, h2, h3, rfl⟩ := hlen hd
      intro v hv
      rcases List.mem_append.1 hv with hv | hv
      · exact oneC_sound h hc h2 v hv
      · exact oneL_den h1 h3 v hv
    · cases h
  | .tbl _ _ _ none, acc, acc', vs, h, hc, hd => tbl_one hd
  | .jbs _ n sz hd' len, acc, acc', vs, h, hc, hd => by cases h; exact jbs_one (fun q hq => hc.1 q (List.mem_range.1 hq)) hd
  | .tbl _ _ _ (some _), acc, acc', vs, h, hc, hd => by cases h

/-- A slice of no elements and no room: nil, or one that was built so. -/
def emptyA (H : List (Nat × Chunk)) : AV → Bool
  | .lit (.slice none 0 0) => true
  | .sl i n => match look i H with | some (.ro m sz _) => Nat.beq n 0 && Nat.beq m 0 && Nat.beq sz 0 | _ => false
  | _ => false
/-- An append to such a slice: the elements, to be read. -/
def appE (cfg : Cfg) (T : List (Nat × AV)) (H : List (Nat × Chunk)) (nx : Nat) (h : Hint) (o : Oper) (acc : List Cd) : Option (AV × Chunk × List Cd) :=
  match o.op with
  | .call ⟨.builtin .append, args, ts⟩ => match args.toList, ts.toList with
    | [x, y], [t, t'] => match Nat.beq t t', look t cfg.tys, ev cfg T acc x with
      | true, some ⟨.slice el, _, _, _⟩, some (vx, acc1) => match look el cfg.tys, ev cfg T acc1 y with
        | some ti, some (.sl j m, acc2) => match Nat.beq ti.zero.cells.size ti.size && Nat.blt 0 ti.size && Nat.ble ti.bytes 16777216 && emptyA H vx, look j H with
          | true, some (.row _ m' sz d) | true, some (.ro m' sz d) => match Nat.beq sz ti.size, oneC d acc2 with
            | true, some acc3 => match h.b with
              | some true => some (.sl nx m, .row el m sz d, cd (m = m' ∧ m ≤ 1048576 ∧ 0 < m) :: acc3)
              | some false => some (.sl nx m, .ro 0 0 (.exp []), cd (m = m' ∧ m ≤ 1048576 ∧ m = 0) :: acc3)
              | none => some (.sl nx m, .ro m sz d, cd (m = m' ∧ m ≤ 1048576 ∧ True) :: acc3)
            | _, _ => none
          | _, _ => none
        | some ti, some (.tb j (.row e m), acc2) => match Nat.beq ti.zero.cells.size ti.size && Nat.blt 0 ti.size && Nat.ble ti.bytes 16777216 && emptyA H vx, look j H with
          | true, some (.fam _ _ sz _ len d) => match Nat.beq sz ti.size, oneC (d e) acc2 with
            | true, some acc3 => match h.b with
              | some true => some (.sl nx m, .row el m sz (d e), cd (m = len e ∧ m ≤ 1048576 ∧ 0 < m) :: acc3)
              | some false => some (.sl nx m, .ro 0 0 (.exp []), cd (m = len e ∧ m ≤ 1048576 ∧ m = 0) :: acc3)
              | none => some (.sl nx m, .ro m sz (d e), cd (m = len e ∧ m ≤ 1048576 ∧ True) :: acc3)
            | _, _ => none
          | _, _ => none
        | _, _ => none
      | _, _, _ => none
    | _, _ => none
  | _ => none

/-- Behind the check of the source: to what is appended. -/
def appendTo (H : List (Nat × Chunk)) (nx j m el m' sz : Nat) (d : Cont) (vx : AV) (acc : List Cd) : Option (AV × List (Nat × Chunk) × List Cd) :=
  match vx with
  | .lit (.slice none 0 0) => some (.sl nx m, (nx, .row el m sz (catC (.exp []) d)) :: H, cd (m = m' ∧ m ≤ 1048576) :: acc)
  | .sl i n => match look i H, Nat.beq i j with
    | some (.row el' n' sz' c), false => match Nat.beq el el' && Nat.beq sz' sz with
      | true => forceK (delA i H) [] fun H' => some (.sl nx (n + m), (nx, .row el (n + m) sz (catC c d)) :: H', cd (m = m' ∧ n = n' ∧ n + m ≤ 1048576) :: acc)
      | false => none
    | _, _ => none
  | _ => none

/-- What a copy of so many elements leaves. -/
def copyCont (k sz : Nat) (c d : Cont) : Cont :=
  match c, d with
  | .ints q xs, .ints q' ys => match kEq q q' && Nat.beq sz 1 with
    | true => .ints q (ys.take k ++ xs.drop k)
    | false => .exp ((Cont.ints q' ys).cells.take (k * sz) ++ (Cont.ints q xs).cells.drop (k * sz))
  | c, d => .exp (d.cells.take (k * sz) ++ c.cells.drop (k * sz))
theorem copyCont_cells (k sz : Nat) (c d : Cont) : (copyCont k sz c d).cells = d.cells.take (k * sz) ++ c.cells.drop (k * sz) := by
  unfold copyCont
  split
  · split
    · rename_i h
      simp only [Bool.and_eq_true] at h
      cases kEq_eq h.1
      cases Nat.eq_of_beq_eq_true h.2
      simp [Cont.cells]
    · rfl
  · rfl
/-- Into a row of the call's own, from another one. -/
def copyTo (H : List (Nat × Chunk)) (i n j m el sz m' : Nat) (d : Cont) (acc : List Cd) : Option (AV × List (Nat × Chunk) × List Cd) :=
  match look i H, Nat.beq i j with
  | some (.row el' n' sz' c), false => match Nat.beq el el' && Nat.beq sz' sz with
    | true => forceK (setA i (.row el n' sz (copyCont (Nat.min m n) sz c d)) H) [] fun H' => some (.lit (.int .i64 (Nat.min m n : Nat)), H', cd (m = m' ∧ n = n') :: acc)
    | false => none
  | _, _ => none

/-- A map with one more entry, or another one. -/
def updE (k : Value) (a : AV) : List (Value × AV) → Option (List (Value × AV))
  | [] => some [(k, a)]
  | (k', b) :: l => match keyB k k' with
    | some true => some ((k', a) :: l)
    | some false => match updE k a l with | some m => some ((k', b) :: m) | none => none
    | none => none
def setI (l : List Int) (s : Int) : List Int := match memI l s with | true => l | false => l ++ [s]
def setU (l : List ByteArray) (s : ByteArray) : List ByteArray := match memS l s with | true => l | false => l ++ [s]
/-- A string that is gone through, one step on. -/
def nextS (hb : Option Bool) (s : ByteArray) (pos : Nat) (acc : List Cd) : Option (AV × ObjK × List Cd) :=
  match hb with
  | some true => some (.tup [.lit (.bool true), .lit (.int .i64 pos), .lit (.int .i32 (Utf8.decode s pos).1)], .sit s (pos + (Utf8.decode s pos).2), cd (pos < s.size) :: acc)
  | some false => some (.tup [.lit (.bool false)], .sit s pos, cd (s.size ≤ pos) :: acc)
  | none => match Nat.blt pos s.size with
    | true => match Utf8.decode s pos with
      | (c, n) => some (.tup [.lit (.bool true), .lit (.int .i64 pos), .lit (.int .i32 c)], .sit s (pos + n), acc)
    | false => some (.tup [.lit (.bool false)], .sit s pos, acc)
def mutOp (cfg : Cfg) (T : List (Nat × AV)) (H : List (Nat × Chunk)) (nx : Nat) (hb : Option Bool) (o : Oper) (acc : List Cd) : Option (AV × List (Nat × Chunk) × List Cd) :=
  match o.op with
  | .store t x y => match look t cfg.tys, ev cfg T acc x with
    | some ti, some (.ptr i e sz j, acc1) => match ev cfg T acc1 y, look i H with
      | some (v, acc2), some c => match cellsOf v with
        | some l => match Nat.beq l.length ti.size && oneL l with
          | true => match storeC c e sz j l acc2 with
            | some (c', acc3) => forceK (setA i c' H) [] fun H' => some (.lit undef, H', acc3)
            | none => none
          | false => none
        | none => none
      | _, _ => none
    | some ti, some (.tb i (.cell e k sz f), acc1) => match ev cfg T acc1 y, look i H with
      | some (v, acc2), some (.fam true te sz' n len c) => match cellsOf v with
        | some l => match Nat.beq l.length ti.size && oneL l && allLit l && Nat.beq sz sz' with
          | true => match setC (c e) k sz f l (cd (e < n ∧ k < len e) :: acc2) with
            | some (c', acc3) => forceK (setA i (.fam true te sz' n len (fun q => if q = e then c' else c q)) H) [] fun H' => some (.lit undef, H', acc3)
            | none => none
          | false => none
        | none => none
      | _, _ => none
    | _, _ => none
  | .call ⟨.builtin .append, args, ts⟩ => match args.toList, ts.toList with
    | [x, y], [t, t'] => match Nat.beq t t', look t cfg.tys, ev cfg T acc x with
      | true, some ⟨.slice el, _, _, _⟩, some (vx, acc1) => match look el cfg.tys, ev cfg T acc1 y with
        | some ti, some (.sl j m, acc2) => match Nat.beq ti.zero.cells.size ti.size && Nat.blt 0 ti.size && Nat.ble ti.bytes 16777216, look j H with
          | true, some (.row _ m' sz d) | true, some (.ro m' sz d) => match Nat.beq sz ti.size, oneC d acc2 with
            | true, some acc3 => appendTo H nx j m el m' sz d vx acc3
            | _, _ => none
          | _, _ => none
        | some ti, some (.tb j (.row e m), acc2) => match Nat.beq ti.zero.cells.size ti.size && Nat.blt 0 ti.size && Nat.ble ti.bytes 16777216, look j H with
          | true, some (.fam _ _ sz _ len d) => match Nat.beq sz ti.size, oneC (d e) acc2 with
            | true, some acc3 => appendTo H nx j m el (len e) sz (d e) vx acc3
            | _, _ => none
          | _, _ => none
        | _, _ => none
      | false, some ⟨.slice el, _, _, _⟩, some (.lit (.slice none 0 0), acc1) => match look t' cfg.tys, look el cfg.tys, ev cfg T acc1 y with
        | some ⟨.int _, _, _, _⟩, some ti, some (.lit (.int _ q), acc2) => match Nat.beq ti.zero.cells.size ti.size && Nat.blt 0 ti.size && Nat.ble ti.bytes 16777216 with
          | true => forceK (repL q.toNat (ti.zero.cells.toList.map AV.lit)) [] fun cs => some (.sl nx q.toNat, (nx, .row el q.toNat ti.size (.exp cs)) :: H, cd (0 < q ∧ q ≤ 1048576) :: acc2)
          | false => none
        | _, _, _ => none
      | _, _, _ => none
    | _, _ => none
  | .call ⟨.builtin .copy, args, ts⟩ => match args.toList, ts.toList with
    | [x, y], [t, _] => match look t cfg.tys, ev cfg T acc x with
      | some ⟨.slice el, _, _, _⟩, some (.sl i n, acc1) => match look el cfg.tys, ev cfg T acc1 y with
        | some ti, some (.sl j m, acc2) => match Nat.blt 0 ti.size, look j H with
          | true, some (.row _ m' sz d) | true, some (.ro m' sz d) => match Nat.beq sz ti.size, oneC d acc2 with
            | true, some acc3 => copyTo H i n j m el sz m' d acc3
            | _, _ => none
          | _, _ => none
        | _, _ => none
      | _, _ => none
    | _, _ => none
  | .mapUpdate t m k x | .insert t m k x => match ev cfg T acc m with
    | some (.mp i, acc1) => match ev cfg T acc1 k with
      | some (.lit key, acc2) => match ev cfg T acc2 x with
        | some (v, acc3) => match look t cfg.tys, look i H with
          | some ⟨.map kt _, _, _, _⟩, some (.obj (.map es)) => match look kt cfg.tys with
            | some ⟨kd, _, _, _⟩ => match keyD kd key, updE key v es with
              | true, some es' => forceK (setA i (.obj (.map es')) H) [] fun H' => some (.lit undef, H', acc3)
              | _, _ => none
            | none => none
          | some ⟨.map kt _, _, _, _⟩, some (.obj (.set l)) => match look kt cfg.tys, key, v with
            | some ⟨.string, _, _, _⟩, .string s, .lit (.bool true) => forceK (setA i (.obj (.set (setU l s))) H) [] fun H' => some (.lit undef, H', acc3)
            | _, _, _ => none
          | some ⟨.map kt _, _, _, _⟩, some (.obj (.iset l)) => match look kt cfg.tys, key, v with
            | some ⟨.int .i64, _, _, _⟩, .int .i64 s, .lit (.bool true) => forceK (setA i (.obj (.iset (setI l s))) H) [] fun H' => some (.lit undef, H', acc3)
            | _, _, _ => none
          | some ⟨.map kt _, _, _, _⟩, some (.obj (.ix l)) => match look kt cfg.tys, key, v with
            | some ⟨.string, _, _, _⟩, .string s, .lit (.int .i64 q) => forceK (setA i (.obj (.ix (l ++ [s]))) H) [] fun H' => some (.lit undef, H', cd (memS l s = false ∧ q = (l.length : Int)) :: acc3)
            | _, _, _ => none
          | _, _ => none
        | none => none
      | _ => none
    | _ => none
  | .next x true => match ev cfg T acc x with
    | some (.ptr i 0 0 0, acc1) => match look i H with
      | some (.obj (.sit s pos)) => match nextS hb s pos acc1 with
        | some (r, k, acc2) => forceK (setA i (.obj k) H) [] fun H' => some (r, H', acc2)
        | none => none
      | _ => none
    | _ => none
  | .slice t x none (some hi) none => match look t cfg.tys, ev cfg T acc x with
    | some ⟨.slice e, _, _, _⟩, some (vx, acc1) => match ev cfg T acc1 hi, look e cfg.tys with
      | some (.lit (.int _ q), acc2), some ti => match vx with
        | .lit (.slice none 0 0) => some (.lit (.slice none 0 0), H, cd (q = 0) :: acc2)
        | .sl i _ => match look i H with
          | some (.row te m sz c) => match sliceC c 0 q.toNat sz with
            | some c' => forceK (setA i (.row te q.toNat sz c') H) [] fun H' => some (.sl i q.toNat, H', cd (0 ≤ q ∧ q ≤ m) :: acc2)
            | none => none
          | _ => none
        | _ => none
      | _, _ => none
    | _, _ => none
  | _ => none

section
variable {cfg : Cfg} {P : Program} {T : List (Nat × AV)} {H : List (Nat × Chunk)} {ρ : Env} {a : Act} {w : World} {F : Frm} {U : Nat → Prop}

/-- What it means that an operation writes. -/
def MutOk (F : Frm) (U : Nat → Prop) (T : TMap) (P : Program) (a : Act) (o : Oper) (ρ : Env) (w : World) (nx : Nat) (r : AV) (H' : HMap) : Prop :=
  ∃ v w' ρ', ((execOp a.eval o).run P w = .ok (.value v) w' ∨ ((execOp a.eval o).run P w = .ok .skip w' ∧ v = undef)) ∧ r.den ρ' = some v ∧ Env.le ρ ρ' ∧ Interp F (fun i => U i ∨ i = nx) T H' ρ' a w'

theorem touch_row {s : Nat → Prop} {w0 w w' : World} (h : Touch s w0 w) {g : Nat} (hg : w0.heap.size ≤ g ∨ s g) (k : Touch (· = g) w w') : Touch s w0 w' :=
  h.trans k fun x hx => by subst hx; exact hg.elim .inr .inl
theorem touch_setRow (w : World) (g : Nat) (cs : Array Value) : Touch (· = g) w (w.setRow g cs) := ⟨rfl, rfl, rfl, by simp, fun k _ hk => setRow_other w g k cs hk⟩

theorem storeC_occ {c c' : Chunk} {e sz j : Nat} {l : List AV} {acc acc' : List Cd} (h : storeC c e sz j l acc = some (c', acc')) (ρ : Env) (i x : Nat) : c'.occ ρ i x ↔ c.occ ρ i x := by
  unfold storeC at h
  split at h
  · cases h
  · split at h
    · rw [force_eq] at h; cases h; exact Iff.rfl
    · cases h
  · split at h
    · split at h
      · cases h; exact Iff.rfl
      · cases h
    · cases h
  · cases h
  · cases h
  · cases h

/-- An owned chunk is another one: one block has turned. -/
theorem Interp.setChunk {T : TMap} {H : HMap} (hI : Interp F U T H ρ a w) {i : Nat} {c c' : Chunk} (hi : H i = some c) (ho : c.own = true) (ho' : c'.own = true) (hocc : ∀ x, c'.occ ρ i x ↔ c.occ ρ i x) {g : Nat} (hg : c.occ ρ i g) {w' : World} (ht : Touch (· = g) w w')
    (hh : c'.holds ρ i w') : Interp F U T (upd H i c') ρ a w' := by
  refine ⟨hI.size, hI.defers.keep (KeepM.touch ht fun x hx => by rw [show x = g from hx]; exact Chunk.holds_odd (hI.heap.holds i c hi) hg), hI.tm, ⟨fun j d e => ?_, fun j d e hjo k d' e' hne x hx hx' => ?_⟩, hI.dom, hI.keep, ?_, touch_row hI.touch (hI.fresh g ⟨i, c, hi, ho, hg⟩) ht⟩
  · by_cases hj : j = i
    · subst hj
      rw [upd_same] at e; cases e
      exact hh
    · rw [upd_other _ _ hj] at e
      refine Chunk.holds_ext (hI.heap.holds j d e) fun x hx => ?_
      have hlt := Chunk.holds_lt (hI.heap.holds j d e) hx
      refine ht.block x hlt fun hxg => ?_
      subst hxg
      exact hI.heap.apart i c hi ho j d e hj x hg hx
  · by_cases hj : j = i
    · subst hj
      rw [upd_same] at e; cases e
      rw [upd_other _ _ hne] at e'
      exact hI.heap.apart j c hi ho k d' e' hne x ((hocc x).1 hx) hx'
    · rw [upd_other _ _ hj] at e
      by_cases hk : k = i
      · subst hk
        rw [upd_same] at e'; cases e'
        exact hI.heap.apart j d e hjo k c hi hne x hx ((hocc x).1 hx')
      · rw [upd_other _ _ hk] at e'
        exact hI.heap.apart j d e hjo k d' e' hne x hx hx'
  · rintro x ⟨j, d, e, hjo, hx⟩
    by_cases hj : j = i
    · subst hj
      rw [upd_same] at e; cases e
      exact hI.fresh x ⟨j, c, hi, ho, (hocc x).1 hx⟩
    · rw [upd_other _ _ hj] at e
      exact hI.fresh x ⟨j, d, e, hjo, hx⟩

/-- .. or is written otherwise. -/
theorem Interp.recont {T : TMap} {H : HMap} (hI : Interp F U T H ρ a w) {i : Nat} {c c' : Chunk} (hi : H i = some c) (ho : c.own = true) (ho' : c'.own = true) (hocc : ∀ x, c'.occ ρ i x ↔ c.occ ρ i x) (hh : c'.holds ρ i w) : Interp F U T (upd H i c') ρ a w := by
  refine ⟨hI.size, hI.defers, hI.tm, ⟨fun j d e => ?_, fun j d e hjo k d' e' hne x hx hx' => ?_⟩, hI.dom, hI.keep, ?_, hI.touch⟩
  · by_cases hj : j = i
    · subst hj
      rw [upd_same] at e; cases e
      exact hh
    · rw [upd_other _ _ hj] at e
      exact hI.heap.holds j d e
  · by_cases hj : j = i
    · subst hj
      rw [upd_same] at e; cases e
      rw [upd_other _ _ hne] at e'
      exact hI.heap.apart j c hi ho k d' e' hne x ((hocc x).1 hx) hx'
    · rw [upd_other _ _ hj] at e
      by_cases hk : k = i
      · subst hk
        rw [upd_same] at e'; cases e'
        exact hI.heap.apart j d e hjo k c hi hne x hx ((hocc x).1 hx')
      · rw [upd_other _ _ hk] at e'
        exact hI.heap.apart j d e hjo k d' e' hne x hx hx'
  · rintro x ⟨j, d, e, hjo, hx⟩
    by_cases hj : j = i
    · subst hj
      rw [upd_same] at e; cases e
      exact hI.fresh x ⟨j, c, hi, ho, (hocc x).1 hx⟩
    · rw [upd_other _ _ hj] at e
      exact hI.fresh x ⟨j, d, e, hjo, hx⟩

theorem denL_app {ρ : Env} : ∀ {l m : List AV} {vs us : List Value}, AV.denL ρ l = some vs → AV.denL ρ m = some us → AV.denL ρ (l ++ m) = some (vs ++ us)
  | [], m, vs, us, h, h' => by cases h; simpa using h'
  | a :: l, m, vs, us, h, h' => by
    simp only [AV.denL] at h
    obtain ⟨v, ws, h1, h2, rfl⟩ := listO_some h
    simp only [List.cons_append, AV.denL, h1, denL_app h2 h']; rfl

theorem run_copy_gen (dT sT ty elem : TypeId) (ti : TyI) (hu : P.underlying dT = some (.slice elem)) (hx : ∃ x, P.info? elem = some x ∧ x.size = ti.size) (D A : Option Addr) (n cap m cap' : Nat) (cs : List Value) (hn : cs.length = Nat.min m n * ti.size) (w' : World)
    (hsrc : 0 < cs.length → ∃ ad, A = some ad ∧ ∀ j u, cs[j]? = some u → w.cell? (ad.add j) = some u) (hst : (∀ ad, D = some ad → (storeCells ad cs).run P w = .ok () w') ∧ (D = none → w' = w)) :
    (Builtin.copy_ #[dT, sT] ty #[.slice D n cap, .slice A m cap']).run P w = .ok (goInt (Nat.min m n)) w' := by
  obtain ⟨i, h1, h2⟩ := hx
  have hf : (Builtin.firstCells ti.size (Nat.min m n) (.slice A m cap')).run P w = .ok cs.toArray w := by
    cases A with
    | none =>
      have : cs = [] := by
        cases cs with
        | nil => rfl
        | cons c cs => obtain ⟨ad, e, _⟩ := hsrc (by simp); cases e
      subst this
      exact run_firstCells_none w _ _ _ _
    | some ad =>
      refine run_firstCells_some w _ _ ad m cap' cs hn fun j u hj => ?_
      have : 0 < cs.length := by have := (List.getElem?_eq_some_iff.1 hj).1; omega
      obtain ⟨ad', e, h⟩ := hsrc this
      cases e
      exact h j u hj
  cases D with
  | none =>
    have := hst.2 rfl
    subst this
    simp [Builtin.copy_, run_underlying hu, Builtin.lenOf, sizeOf, typeInfo, h1, h2, hf]
  | some ad =>
    have hst := hst.1 ad rfl
    simp [Builtin.copy_, run_underlying hu, Builtin.lenOf, sizeOf, typeInfo, h1, h2, hf, hst]

theorem copy_ok (hI : Interp F U (fun k => look k T) (fun k => look k H) ρ a w) (hk : Know cfg P (fun k => look k T) (fun k => look k H) ρ a w) {o : Oper} {t t' : TypeId} {x y : Operand} (ho : o.op = .call ⟨.builtin .copy, #[x, y], #[t, t']⟩) {el : TypeId} {b1 b2 : Nat} {z : Value} {ti : TyI} (hti : look t cfg.tys = some ⟨.slice el, b1, b2, z⟩) (hel : look el cfg.tys = some ti)
    {i n j m m' : Nat} {d : Cont} {cj : Chunk} {acc acc' : List Cd} {ux uy : Value} {r : AV} {H' : List (Nat × Chunk)} (hx : AV.den ρ (.sl i n) = some ux) (hex : a.eval x = ux) (hy : AV.den ρ (.sl j m) = some uy) (hey : a.eval y = uy) (hpos : 0 < ti.size)
    (hj : look j H = some cj) (hcj : cj = .ro m' ti.size d ∨ ∃ t, cj = .row t m' ti.size d) (hone : ∀ vs, AV.denL ρ d.cells = some vs → ∀ v ∈ vs, v.oneCell' = true) (h : copyTo H i n j m el ti.size m' d acc = some (r, H', acc')) (hc : All acc') (nx : Nat) : All acc ∧ MutOk F U (fun k => look k T) P a o ρ w nx r (fun k => look k H') := by
  unfold copyTo at h
  split at h
  · rename_i el' n' sz' c hi hij
    split at h
    · rename_i hb
      simp only [Bool.and_eq_true] at hb
      cases Nat.eq_of_beq_eq_true hb.1
      cases Nat.eq_of_beq_eq_true hb.2
      rw [force_eq] at h
      cases h
      obtain ⟨⟨rfl, rfl⟩, hc0⟩ := hc
      refine ⟨hc0, ?_⟩
      simp only [AV.den, Option.map_eq_some_iff] at hx hy
      obtain ⟨L, e1, rfl⟩ := hx
      obtain ⟨L', e2, rfl⟩ := hy
      obtain ⟨L1, vs, f1, f2, f3⟩ := hI.heap.holds i _ hi
      rw [e1] at f1; cases f1
      have src : ∃ us, AV.denL ρ d.cells = some us ∧ us.length = m * ti.size ∧ (0 < m * ti.size → ∃ ad, L'.ad = some ad ∧ ∀ q u, us[q]? = some u → w.cell? (ad.add q) = some u) := by
        have hh := hI.heap.holds j _ hj
        rcases hcj with rfl | ⟨tt, rfl⟩
        · obtain ⟨L2, us, g1, g2, g3, _, _, g4⟩ := hh
          rw [e2] at g1; cases g1
          exact ⟨us, g2, g3, g4⟩
        · obtain ⟨L2, us, g1, g2, g3⟩ := hh
          rw [e2] at g1; cases g1
          refine ⟨us, g2, g3.1, fun h0 => ?_⟩
          rcases g3.2 with ⟨q1, rfl⟩ | ⟨g, cap, cur, q1, _⟩
          · simp at h0
          · injection q1 with q1 q2 q3
            exact ⟨_, q1, g3.cells (g := g) (by rw [q1]; rfl)⟩
      obtain ⟨us, s1, s2, s3⟩ := src
      have hmin : Nat.min m n * ti.size ≤ m * ti.size := Nat.mul_le_mul_right _ (Nat.min_le_left _ _)
      have hmin' : Nat.min m n * ti.size ≤ n * ti.size := Nat.mul_le_mul_right _ (Nat.min_le_right _ _)
      have hcl : (us.take (Nat.min m n * ti.size)).length = Nat.min m n * ti.size := by rw [List.length_take, s2]; omega
      have hden : AV.denL ρ (copyCont (Nat.min m n) ti.size c d).cells = some (us.take (Nat.min m n * ti.size) ++ vs.drop (Nat.min m n * ti.size)) := by
        rw [copyCont_cells]
        exact denL_app (denL_take _ s1).1 (denL_take _ f2).2
      have hsrc : 0 < (us.take (Nat.min m n * ti.size)).length → ∃ ad, L'.ad = some ad ∧ ∀ q u, (us.take (Nat.min m n * ti.size))[q]? = some u → w.cell? (ad.add q) = some u := by
        intro h0
        obtain ⟨ad, q1, q2⟩ := s3 (by omega)
        refine ⟨ad, q1, fun q u hq => q2 q u ?_⟩
        have := (List.getElem?_eq_some_iff.1 hq).1
        rw [List.getElem?_take_of_lt (by omega)] at hq
        exact hq
      have h1 : ∀ v ∈ us.take (Nat.min m n * ti.size), v.oneCell' = true := fun v hv => hone us s1 v (List.mem_of_mem_take hv)
      have hu := (hk.tv t _ (look_mem hti)).1
      have hxi : ∃ x, P.info? el = some x ∧ x.size = ti.size := let ⟨_, x, h1, h2, _⟩ := hk.tv el ti (look_mem hel); ⟨x, h1, h2⟩
      have fin : ∀ w', ((∀ ad, L.ad = some ad → (storeCells ad (us.take (Nat.min m n * ti.size))).run P w = .ok () w') ∧ (L.ad = none → w' = w)) →
          Interp F U (fun k => look k T) (upd (fun k => look k H) i (.row el n ti.size (copyCont (Nat.min m n) ti.size c d))) ρ a w' → MutOk F U (fun k => look k T) P a o ρ w nx (.lit (.int .i64 (Nat.min m n : Nat))) (fun k => look k (setA i (.row el n ti.size (copyCont (Nat.min m n) ti.size c d)) H)) := by
        intro w' hst hI2
        have hrun := run_copy_gen (P := P) (w := w) t t' o.type el ti hu hxi L.ad L'.ad n L.cap m L'.cap _ hcl w' hsrc hst
        refine ⟨_, w', ρ, .inl ?_, by simp [AV.den]; rfl, Env.le.refl _, hI2.sub (fun i L _ h => .inl h) (fun _ _ h => h) fun k d' hkd => ?_⟩
        · simp only [execOp, ho, resolve, invoke, Sem.run_bind, Sem.run_pure, Result.andThen_ok, builtin]
          have : (#[x, y].map a.eval) = #[.slice L.ad n L.cap, .slice L'.ad m L'.cap] := by simp [hex, hey]
          rw [this, hrun]
          rfl
        · rw [look_setA] at hkd
          by_cases hki : k = i
          · subst hki
            rw [if_pos rfl, hi] at hkd
            rw [upd_same]
            simpa using hkd
          · rw [if_neg hki] at hkd
            rw [upd_other _ _ hki]
            exact hkd
      rcases f3.2 with ⟨q1, q2⟩ | ⟨g, cap, cur, q1, q2, q3, q4, q5, q6, q7⟩
      · injection q1 with q1 q3 q4
        refine fin w ⟨fun ad e => (by rw [q1] at e; cases e), fun _ => rfl⟩ (hI.recont hi rfl rfl (by intro _; exact Iff.rfl) ⟨L, _, e1, hden, ?_, .inl ⟨by rw [q1, q4, q2], q2⟩⟩)
        subst q2
        have : us.take (Nat.min m 0 * ti.size) = [] := by have := hcl; simp
        have hv0 : vs = [] := List.eq_nil_of_length_eq_zero (by rw [f3.1]; simp)
        rw [this, hv0]; simp
      · injection q1 with q1 q8 q9
        have hvl : vs.length = n * ti.size := f3.1
        have hcur : vs.length ≤ cur.size := by rw [← q7]; simp; omega
        have hst := run_storeCells_at P g 0 el (us.take (Nat.min m n * ti.size)) 0 cur w q3 (by omega) h1
        rw [List.take_zero, List.nil_append] at hst
        have hst' : (storeCells ⟨g, 0, none⟩ (us.take (Nat.min m n * ti.size))).run P w = .ok () (w.setRow g (us.take (Nat.min m n * ti.size) ++ cur.toList.drop (Nat.min m n * ti.size)).toArray) := by
          have e0 : (⟨g, 0 + 0, none⟩ : Addr) = ⟨g, 0, none⟩ := rfl
          simpa [hcl] using hst
        refine fin _ ⟨fun ad e => (by rw [q1] at e; cases e; exact hst'), fun e => (by rw [q1] at e; cases e)⟩ (hI.setChunk hi rfl rfl (by intro _; exact Iff.rfl) ⟨L, _, e1, q1, rfl⟩ (touch_setRow w g _) ⟨L, _, e1, hden, ?_, .inr ⟨g, cap, _, by rw [q1, q9], q2, setRow_heap w g _ _ el (0, 0) q3, q4, q5, ?_, ?_⟩⟩)
        · rw [List.length_append, hcl, List.length_drop, hvl]; omega
        · simp only [List.size_toArray, List.length_append, hcl, List.length_drop, Array.length_toList]; omega
        · rw [List.toList_toArray, List.take_append]
          rw [hcl, List.take_of_length_le (by rw [hcl]; exact hmin')]
          congr 1
          rw [← q7, List.drop_take]
    · cases h
  · cases h

theorem store_ok (hI : Interp F U (fun k => look k T) (fun k => look k H) ρ a w) (hk : Know cfg P (fun k => look k T) (fun k => look k H) ρ a w) {o : Oper} {t : TypeId} {x y : Operand} (ho : o.op = .store t x y) {ti : TyI} (hti : look t cfg.tys = some ti)
    {i e sz j : Nat} {v : AV} {l : List AV} {c c' : Chunk} {acc acc' : List Cd} {ux uy : Value} (hx : AV.den ρ (.ptr i e sz j) = some ux) (hex : a.eval x = ux) (hy : v.den ρ = some uy) (hey : a.eval y = uy) (hl : cellsOf v = some l)
    (hs : l.length = ti.size) (h1 : oneL l = true) (hi : look i H = some c) (h : storeC c e sz j l acc = some (c', acc')) (hc : All acc') (nx : Nat) : MutOk F U (fun k => look k T) P a o ρ w nx (.lit undef) (fun k => look k (setA i c' H)) := by
  simp only [AV.den, Option.bind_eq_some_iff, Option.map_eq_some_iff] at hx
  obtain ⟨L, e1, ad, e2, rfl⟩ := hx
  have hd := cellsOf_den hl hy
  obtain ⟨_, h3, h4, cs, h5, h6⟩ := storeC_sound (P := P) h hc (hI.heap.holds i c hi) hd (oneL_den h1 hd) e1 e2
  have hocc : c.occ ρ i ad.block := by
    cases c with
    | ro => cases h3
    | fam => cases h
    | _ => exact ⟨L, ad, e1, e2, rfl⟩
  have hI2 := hI.setChunk hi h3 h4 (storeC_occ h ρ i) hocc (touch_setRow w ad.block cs) h6
  refine ⟨undef, _, ρ, .inr ⟨?_, rfl⟩, by simp [AV.den], Env.le.refl _, hI2.sub (fun i L _ h => .inl h) (fun _ _ h => h) fun k d hkd => ?_⟩
  · have hsz := tv_size (w := w) hk.tv hti
    have hlen : uy.cells.size = ti.size := by rw [← hs, ← denL_len hd]; simp
    simp only [execOp, ho, hex, hey, Instr.storeAt, Instr.sureAddr, Sem.run_bind, Sem.run_pure, Result.andThen_ok, storeVar, hsz, hlen, ne_eq, not_true_eq_false, if_false, h5]
  · rw [look_setA] at hkd
    by_cases hki : k = i
    · subst hki
      rw [if_pos rfl, hi] at hkd
      rw [upd_same]
      simpa using hkd
    · rw [if_neg hki] at hkd
      rw [upd_other _ _ hki]
      exact hkd


theorem setC_acc {c c' : Cont} {e sz j : Nat} {l : List AV} {acc acc' : List Cd} (h : setC c e sz j l acc = some (c', acc')) (hc : All acc') : All acc := by
  unfold setC at h
  simp only [force_eq] at h
  (repeat' split at h) <;> first | (cases h; done) | (cases h; exact hc) | (cases h; exact hc.2) | (cases h; exact hc.2.2)
/-- A write into a row of a family. -/
theorem storeT_ok (hI : Interp F U (fun k => look k T) (fun k => look k H) ρ a w) (hk : Know cfg P (fun k => look k T) (fun k => look k H) ρ a w) {o : Oper} {t : TypeId} {x y : Operand} (ho : o.op = .store t x y) {ti : TyI} (hti : look t cfg.tys = some ti)
    {i e k sz f n : Nat} {v : AV} {l : List AV} {te : TypeId} {len : Nat → Nat} {c : Nat → Cont} {c' : Cont} {acc acc' : List Cd} {ux uy : Value} (hx : AV.den ρ (.tb i (.cell e k sz f)) = some ux) (hex : a.eval x = ux) (hy : v.den ρ = some uy) (hey : a.eval y = uy) (hl : cellsOf v = some l)
    (hs : l.length = ti.size) (h1 : oneL l = true) (h2 : allLit l = true) (hi : look i H = some (.fam true te sz n len c)) (h : setC (c e) k sz f l (cd (e < n ∧ k < len e) :: acc) = some (c', acc')) (hc : All acc') (nx : Nat) :
    MutOk F U (fun k => look k T) P a o ρ w nx (.lit undef) (fun k => look k (setA i (.fam true te sz n len (fun q => if q = e then c' else c q)) H)) := by
  simp only [AV.den, Option.bind_eq_some_iff, Tb.den, Option.map_eq_some_iff] at hx
  obtain ⟨L, e1, r, e2, ad, e3, rfl⟩ := hx
  have hd := cellsOf_den hl hy
  obtain ⟨L', e4, hf⟩ := hI.heap.holds i _ hi
  rw [e1] at e4; cases e4
  obtain ⟨vs, g1, g2, g3, g4, g5, g6⟩ := hf.2.2.1 e r e2
  have hpos : 0 < len e * sz := Nat.mul_pos (by have := (setC_acc h hc).1.2; exact Nat.lt_of_le_of_lt (Nat.zero_le _) this) hf.1
  have hrow := g6 rfl hpos
  have hst : storeC (.row te (len e) sz (c e)) k sz f l (cd (e < n ∧ k < len e) :: acc) = some (.row te (len e) sz c', acc') := by
    simp only [storeC, Nat.beq_eq_true_eq, h]
    simp
  obtain ⟨_, _, _, cs, h5, h6⟩ := storeC_sound (P := P) (ρ := fun _ => some ⟨r.1, r.2⟩) (i := 0) hst hc ⟨_, vs, rfl, g1 _, hrow⟩ (allLit_den h2 hd) (oneL_den h1 hd) rfl e3
  obtain ⟨L2, vs2, e5, e6, hrow2⟩ := h6
  cases e5
  have hall : ∀ ρ' : Env, AV.denL ρ' c'.cells = some (lay vs (k * sz + f) uy.cells.toList) := fun ρ' => (setC_sound h hc (g1 ρ') (allLit_den h2 hd)).2.1
  have e7 : vs2 = lay vs (k * sz + f) uy.cells.toList := by
    have := hall (fun _ => some ⟨r.1, r.2⟩)
    rw [e6] at this
    exact Option.some.inj this
  have hnew : RowAt (w.setRow ad.block cs) r true te sz (len e) c' := by
    refine ⟨vs2, fun ρ' => by rw [hall ρ', e7], hrow2.1, g3, g4, fun h0 => ⟨ad, e3, ?_⟩, fun _ _ => hrow2⟩
    exact hrow2.cells (g := ad.block) (by rw [e3]; rfl) |> fun hh => by
      have : ad = ⟨ad.block, 0, none⟩ := by
        rcases hrow2.2 with ⟨q1, q2⟩ | ⟨g', cap', cur', q1, _⟩
        · injection q1 with q1; rw [e3] at q1; cases q1
        · injection q1 with q1; rw [e3] at q1; cases q1; rfl
      rw [this]
      exact hh
  have hfam : FamAt (w.setRow ad.block cs) L true te sz n len (fun q => if q = e then c' else c q) := by
    refine ⟨hf.1, hf.2.1, fun q r' hq => ?_, hf.2.2.2⟩
    by_cases hqe : q = e
    · subst hqe
      rw [e2] at hq; cases hq
      dsimp only
      rw [if_pos rfl]
      exact hnew
    · dsimp only
      rw [if_neg hqe]
      exact (hf.2.2.1 q r' hq).ext fun a' ha' h0' => setRow_other w ad.block a'.block cs (hf.2.2.2 rfl q e r' r a' ad hq e2 ha' e3 hqe h0' hpos)
  have hI2 := hI.setChunk (c' := .fam true te sz n len (fun q => if q = e then c' else c q)) hi rfl rfl (by intro _; exact Iff.rfl) (g := ad.block) ⟨L, e1, e, r, ad, e2, e3, rfl, hpos⟩ (touch_setRow w ad.block cs) ⟨L, e1, hfam⟩
  refine ⟨undef, _, ρ, .inr ⟨?_, rfl⟩, by simp [AV.den], Env.le.refl _, hI2.sub (fun i L _ h => .inl h) (fun _ _ h => h) fun k d hkd => ?_⟩
  · have hsz := tv_size (w := w) hk.tv hti
    have hlen : uy.cells.size = ti.size := by rw [← hs, ← denL_len hd]; simp
    simp only [execOp, ho, hex, hey, Instr.storeAt, Instr.sureAddr, Sem.run_bind, Sem.run_pure, Result.andThen_ok, storeVar, hsz, hlen, ne_eq, not_true_eq_false, if_false, h5]
  · rw [look_setA] at hkd
    by_cases hki : k = i
    · subst hki
      rw [if_pos rfl, hi] at hkd
      rw [upd_same]
      simpa using hkd
    · rw [if_neg hki] at hkd
      rw [upd_other _ _ hki]
      exact hkd

theorem run_append_src (t ty el : TypeId) (ti : TyI) (hv : P.underlying t = some (.slice el)) (hx : ∃ x, P.info? el = some x ∧ x.size = ti.size ∧ x.bytes = ti.bytes ∧ x.zero = some ti.zero) (hzs : ti.zero.cells.size = ti.size) (hsz : 0 < ti.size) (hby : ti.bytes ≤ 16777216)
    (v : Value) (n : Nat) (xs : List Value) (hown : w.ownsRow 0 el ti.size v n xs) (A : Option Addr) (m c : Nat) (news : List Value) (hl : news.length = m * ti.size)
    (hnews : 0 < m * ti.size → ∃ ad, A = some ad ∧ ∀ j u, news[j]? = some u → w.cell? (ad.add j) = some u) (h1 : ∀ u ∈ news, u.oneCell' = true) (hb : n + m ≤ 1048576) :
    ∃ v' w', (Builtin.append_ #[t, t] ty #[v, .slice A m c]).run P w = .ok v' w' ∧ w'.ownsRow 0 el ti.size v' (n + m) (xs ++ news) ∧ w.grownBy w' v.ownBlock ∧ (v'.ownBlock = v.ownBlock ∨ v'.ownBlock = some w.heap.size) := by
  obtain ⟨info, g1, g2, g3, g4⟩ := hx
  have big : (n + m) * ti.bytes ≤ 140737488355328 := by
    have : (n + m) * ti.bytes ≤ 1048576 * 16777216 := Nat.mul_le_mul hb hby
    omega
  cases A with
  | some ad =>
    have hn : ∀ j u, news[j]? = some u → w.cell? (ad.add j) = some u := by
      intro j u hu
      have : j < news.length := (List.getElem?_eq_some_iff.1 hu).1
      obtain ⟨ad', e1, e2⟩ := hnews (by omega)
      cases e1
      exact e2 j u hu
    obtain ⟨v', w', h2, h3, h4, _, h5⟩ := run_append_own_at (P := P) w 0 t ty el info ti.zero ti.size ti.bytes hv g1 g4 g2 g3 hzs hsz v n xs hown ad m c news hl hn h1 (by simp only [maxLen]; omega) big (Nat.zero_le _)
    exact ⟨v', w', h2, h3, h4, h5⟩
  | none =>
    have hm : m = 0 := by
      rcases Nat.eq_zero_or_pos m with h | h
      · exact h
      · obtain ⟨_, e, _⟩ := hnews (Nat.mul_pos h hsz); cases e
    subst hm
    have hn : news = [] := List.eq_nil_of_length_eq_zero (by simpa using hl)
    subst hn
    refine ⟨v, w, ?_, by simpa using hown, ⟨rfl, rfl, rfl, Nat.le_refl _, fun _ _ _ => rfl⟩, .inl rfl⟩
    rcases hown.2 with ⟨rfl, rfl⟩ | ⟨g, cap, cur, rfl, _, _, hnc, _⟩
    · simp [Builtin.append_, run_underlying hv, sizeOf, typeInfo, g1, Builtin.lenOf, Builtin.firstCells]
    · simp [Builtin.append_, run_underlying hv, sizeOf, typeInfo, g1, Builtin.lenOf, Builtin.firstCells, hnc, storeCells]

/-- Behind an append: H0 is what stands besides the slice that was appended to. -/
theorem append_ok (hI : Interp F U (fun k => look k T) (fun k => look k H) ρ a w) (hk : Know cfg P (fun k => look k T) (fun k => look k H) ρ a w) {o : Oper} {t : TypeId} {x y : Operand} {el : TypeId} {b1 b2 : Nat} {z0 : Value} {ti : TyI}
    (ho : o.op = .call ⟨.builtin .append, #[x, y], #[t, t]⟩) (ht : look t cfg.tys = some ⟨.slice el, b1, b2, z0⟩) (hel : look el cfg.tys = some ti) (hzs : ti.zero.cells.size = ti.size) (hsz : 0 < ti.size) (hby : ti.bytes ≤ 16777216)
    {H0 : List (Nat × Chunk)} (hH0 : ∀ k c, look k H0 = some c → look k H = some c) {v : Value} {n m : Nat} {xs : List Value} (hown : w.ownsRow 0 el ti.size v n xs) (hex : a.eval x = v)
    (hv0 : ∀ g, v.ownBlock = some g → Owned ρ (fun k => look k H) g ∧ ∀ k c, look k H0 = some c → ¬ c.occ ρ k g)
    {A : Option Addr} {c : Nat} (hey : a.eval y = .slice A m c) {news : List Value} (hl : news.length = m * ti.size) (hnews : 0 < m * ti.size → ∃ ad, A = some ad ∧ ∀ j u, news[j]? = some u → w.cell? (ad.add j) = some u) (h1 : ∀ u ∈ news, u.oneCell' = true)
    (hb : n + m ≤ 1048576) {cc : Cont} (hcc : AV.denL ρ cc.cells = some (xs ++ news)) {nx : Nat} (hnx : ¬ U nx) (hm : ¬ nx < F.m) :
    MutOk F U (fun k => look k T) P a o ρ w nx (.sl nx (n + m)) (fun k => look k ((nx, .row el (n + m) ti.size cc) :: H0)) := by
  have hu := hk.tv t _ (look_mem ht)
  have hx := hk.tv el _ (look_mem hel)
  obtain ⟨v', w', h2, h3, h4, h5⟩ := run_append_src (P := P) (w := w) t o.type el ti hu.1 hx.2 hzs hsz hby v n xs hown A m c news hl hnews h1 hb
  obtain ⟨A', C', hv'⟩ : ∃ A' C', v' = .slice A' (n + m) C' := by
    rcases h3.2 with ⟨rfl, e⟩ | ⟨g, cap, cur, rfl, _⟩
    · exact ⟨none, 0, by rw [e]⟩
    · exact ⟨_, _, rfl⟩
  subst hv'
  have hnone : ρ nx = none := by
    cases h : ρ nx with
    | none => rfl
    | some L => exact absurd (hI.dom nx L h) hnx
  have hle := envSet_le (L := ⟨A', C'⟩) hnone
  have hblk : ∀ g, Value.ownBlock (.slice A' (n + m) C') = some g → w.heap.size ≤ g ∨ v.ownBlock = some g := by
    intro g hg
    rcases h5 with h | h
    · right; rw [← h]; exact hg
    · left; rw [h] at hg; cases hg; exact Nat.le_refl _
  have hold : ∀ k d, look k H0 = some d → ∀ g, d.occ ρ k g → w'.heap[g]? = w.heap[g]? := by
    intro k d hd g hg
    refine h4.block g (Chunk.holds_lt (hI.heap.holds k d (hH0 k d hd)) hg) fun e => ?_
    exact (hv0 g e.symm).2 k d hd hg
  have hH0n : ∀ d, look nx H0 ≠ some d := by
    intro d hd
    obtain ⟨L, hL⟩ : ∃ L, ρ nx = some L := by
      have := hI.heap.holds nx d (hH0 nx d hd)
      cases d with
      | blk t l => obtain ⟨g, cap, vs, e, _⟩ := this; exact ⟨_, e⟩
      | rb t l => obtain ⟨g, cap, vs, e, _⟩ := this; exact ⟨_, e⟩
      | row t n sz c => obtain ⟨L, vs, e, _⟩ := this; exact ⟨_, e⟩
      | ro n sz c => obtain ⟨L, vs, e, _⟩ := this; exact ⟨_, e⟩
      | obj k => obtain ⟨b, cap, vs, e, _⟩ := this; exact ⟨_, e⟩
      | fam => obtain ⟨L, e, _⟩ := this; exact ⟨_, e⟩
    rw [hnone] at hL; cases hL
  have hocc1 : ∀ g, Chunk.occ (envSet ρ nx ⟨A', C'⟩) nx g (.row el (n + m) ti.size cc) → Value.ownBlock (.slice A' (n + m) C') = some g := by
    rintro g ⟨L, b, e1, e2, e3⟩
    rw [envSet_same] at e1
    cases e1
    dsimp only at e2
    rw [e2]; simp [Value.ownBlock, e3]
  have hheap : Heap (envSet ρ nx ⟨A', C'⟩) (fun k => look k ((nx, .row el (n + m) ti.size cc) :: H0)) w' := by
    refine ⟨fun k d e => ?_, fun k d e hdo k' d' e' hne g hg hg' => ?_⟩
    · rw [look_cons] at e
      by_cases hkn : k = nx
      · subst hkn
        rw [if_pos rfl] at e; cases e
        exact ⟨⟨A', C'⟩, _, envSet_same _ _ _, AV.denL_mono hle _ _ hcc, h3⟩
      · rw [if_neg hkn] at e
        exact Chunk.holds_mono hle (Chunk.holds_ext (hI.heap.holds k d (hH0 k d e)) (hold k d e))
    · rw [look_cons] at e e'
      have back : ∀ {k d g}, look k H0 = some d → d.occ (envSet ρ nx ⟨A', C'⟩) k g → d.occ ρ k g := fun {k d g} e h => Chunk.occ_mono hle (hI.heap.holds k d (hH0 k d e)) h
      by_cases hkn : k = nx
      · subst hkn
        rw [if_pos rfl] at e; cases e
        rw [if_neg hne] at e'
        have hg2 := back e' hg'
        rcases hblk g (hocc1 g hg) with h6 | h6
        · have := Chunk.holds_lt (hI.heap.holds k' d' (hH0 k' d' e')) hg2; omega
        · exact (hv0 g h6).2 k' d' e' hg2
      · rw [if_neg hkn] at e
        by_cases hkn' : k' = nx
        · subst hkn'
          rw [if_pos rfl] at e'; cases e'
          have hg2 := back e hg
          rcases hblk g (hocc1 g hg') with h6 | h6
          · have := Chunk.holds_lt (hI.heap.holds k d (hH0 k d e)) hg2; omega
          · exact (hv0 g h6).2 k d e hg2
        · rw [if_neg hkn'] at e'
          exact hI.heap.apart k d (hH0 k d e) hdo k' d' (hH0 k' d' e') hne g (back e hg) (back e' hg')
  refine ⟨.slice A' (n + m) C', w', envSet ρ nx ⟨A', C'⟩, .inl ?_, by simp [AV.den, envSet_same], hle, hI.step hle (fun i hi => envSet_other _ _ (fun e => hm (e ▸ hi))) ?_ hheap ?_ ?_ ?_⟩
  · simp only [execOp, ho, resolve, invoke, builtin, Sem.run_bind, Sem.run_pure, Result.andThen_ok, List.map_toArray, List.map_cons, List.map_nil, hex, hey, h2]
  · intro i L hi
    by_cases h : i = nx
    · exact .inr h
    · rw [envSet_other _ _ h] at hi; exact .inl (hI.dom i L hi)
  · rintro g ⟨k, d, e, hdo, hg⟩
    dsimp only at e
    rw [look_cons] at e
    by_cases hkn : k = nx
    · subst hkn
      rw [if_pos rfl] at e; cases e
      rcases hblk g (hocc1 g hg) with h6 | h6
      · left; have := hI.touch.size; omega
      · exact hI.fresh g (hv0 g h6).1
    · rw [if_neg hkn] at e
      exact hI.fresh g ⟨k, d, hH0 k d e, hdo, Chunk.occ_mono hle (hI.heap.holds k d (hH0 k d e)) hg⟩
  · refine hI.touch.trans (Touch.grown h4) fun g hg => ?_
    exact (hI.fresh g (hv0 g hg).1).elim .inr .inl
  · refine KeepM.touch (Touch.grown h4) fun g hg => ?_
    obtain ⟨j, d, f1, _, f2⟩ := (hv0 g hg).1
    exact Chunk.holds_odd (hI.heap.holds j d f1) f2

theorem look_del {i k : Nat} {c : Chunk} (h : look k (delA i H) = some c) : k ≠ i ∧ look k H = some c := by
  rw [look_delA] at h
  by_cases hk : k = i
  · rw [if_pos hk] at h; cases h
  · rw [if_neg hk] at h; exact ⟨hk, h⟩

/-- A source of an append. -/
theorem src_sound {ρ : Env} {w : World} {j m m' sz : Nat} {d : Cont} {c : Chunk} (hc : c.holds ρ j w) (hcc : c = .ro m' sz d ∨ ∃ t, c = .row t m' sz d) {v : Value} (hv : AV.den ρ (.sl j m) = some v) (hm : m = m') :
    ∃ A cap news, v = .slice A m cap ∧ AV.denL ρ d.cells = some news ∧ news.length = m * sz ∧ (0 < m * sz → ∃ ad, A = some ad ∧ ∀ q u, news[q]? = some u → w.cell? (ad.add q) = some u) := by
  subst hm
  simp only [AV.den, Option.map_eq_some_iff] at hv
  obtain ⟨L, e1, rfl⟩ := hv
  rcases hcc with rfl | ⟨t, rfl⟩
  · obtain ⟨L', vs, e2, e3, e4, e5, e6, e7⟩ := hc
    rw [e1] at e2; cases e2
    exact ⟨L.ad, L.cap, vs, rfl, e3, e4, e7⟩
  · obtain ⟨L', vs, e2, e3, e4, e5⟩ := hc
    rw [e1] at e2; cases e2
    refine ⟨L.ad, L.cap, vs, rfl, e3, e4, fun h0 => ?_⟩
    rcases e5 with ⟨_, rfl⟩ | ⟨g, cap, cur, f1, f2, f3⟩
    · simp at h0
    · injection f1 with f1 f4 f5
      refine ⟨_, f1, ?_⟩
      exact World.ownsRow.cells (base := 0) (e := t) (size := sz) (n := m) (v := .slice L.ad m L.cap) ⟨e4, .inr ⟨g, cap, cur, by rw [f1, f5], f2, f3⟩⟩ (g := g) (by rw [f1]; rfl)

theorem emptyA_sound {ρ : Env} {w : World} {H : List (Nat × Chunk)} (hh : Heap ρ (fun k => look k H) w) {x : AV} {v : Value} (h : emptyA H x = true) (hv : x.den ρ = some v) : ∃ A, v = .slice A 0 0 := by
  unfold emptyA at h
  split at h
  · simp only [AV.den, Option.some.injEq] at hv
    exact ⟨none, hv.symm⟩
  · rename_i i n
    split at h
    · rename_i m sz c hi
      simp only [Bool.and_eq_true] at h
      cases Nat.eq_of_beq_eq_true h.1.1
      cases Nat.eq_of_beq_eq_true h.1.2
      cases Nat.eq_of_beq_eq_true h.2
      obtain ⟨L, vs, e1, _, _, _, e5, _⟩ := hh.holds i _ hi
      simp only [AV.den, e1, Option.map_some, Option.some.injEq] at hv
      have : L.cap = 0 := Nat.le_zero.1 e5
      exact ⟨L.ad, by rw [← hv, this]⟩
    · cases h
  · cases h
set_option maxHeartbeats 1000000 in
theorem appE_sound (hk : Know cfg P (fun k => look k T) (fun k => look k H) ρ a w) {nx : Nat} (hn : ρ nx = none) {hi : Hint} {o : Oper} {acc acc' : List Cd} {r : AV} {c : Chunk}
    (h : appE cfg T H nx hi o acc = some (r, c, acc')) (hc : All acc') : All acc ∧ ExtOk P a o ρ (fun k => look k H) w nx r c := by
  unfold appE at h
  split at h
  case h_2 => cases h
  rename_i args ts ho
  split at h
  case h_2 => cases h
  rename_i x y t t' hargs hts
  have hargs' : args = #[x, y] := by apply Array.toList_inj.1; simpa using hargs
  have hts' : ts = #[t, t'] := by apply Array.toList_inj.1; simpa using hts
  subst hargs' hts'
  split at h
  case h_2 => cases h
  rename_i el _ _ _ vx acc1 htt h1 h2
  cases Nat.eq_of_beq_eq_true htt
  have step : ∀ {ti : TyI} {y' : AV} {m : Nat} {acc2 : List Cd} {m' sz : Nat} {d : Cont} {acc3 : List Cd}, look el cfg.tys = some ti → ev cfg T acc1 y = some (y', acc2) → (∀ v, AV.den ρ y' = some v → m = m' → ∃ A cap news, v = .slice A m cap ∧ AV.denL ρ d.cells = some news ∧ news.length = m * sz ∧ (0 < m * sz → ∃ ad, A = some ad ∧ ∀ q u, news[q]? = some u → w.cell? (ad.add q) = some u)) →
      (Nat.beq ti.zero.cells.size ti.size && Nat.blt 0 ti.size && Nat.ble ti.bytes 16777216 && emptyA H vx) = true → Nat.beq sz ti.size = true → oneC d acc2 = some acc3 →
      (match hi.b with | some true => some (AV.sl nx m, Chunk.row el m sz d, cd (m = m' ∧ m ≤ 1048576 ∧ 0 < m) :: acc3) | some false => some (AV.sl nx m, Chunk.ro 0 0 (.exp []), cd (m = m' ∧ m ≤ 1048576 ∧ m = 0) :: acc3) | none => some (AV.sl nx m, Chunk.ro m sz d, cd (m = m' ∧ m ≤ 1048576 ∧ True) :: acc3)) = some (r, c, acc') → All acc ∧ ExtOk P a o ρ (fun k => look k H) w nx r c := by
    clear h
    intro ti y' m acc2 m' sz d acc3 h3 h4 hS hh hsz hone h
    simp only [Bool.and_eq_true] at hh
    obtain ⟨⟨⟨hzs, hpos⟩, hby⟩, hem⟩ := hh
    have hzs := Nat.eq_of_beq_eq_true hzs
    have hpos : 0 < ti.size := Nat.le_of_ble_eq_true hpos
    have hby : ti.bytes ≤ 16777216 := Nat.le_of_ble_eq_true hby
    cases Nat.eq_of_beq_eq_true hsz
    obtain ⟨R, p, hRc, rfl, hRp, hrc⟩ : ∃ (R : Chunk) (p : Prop), (R = .ro m ti.size d ∨ (R = .row el m ti.size d ∧ (p → 0 < m)) ∨ (R = .ro 0 0 (.exp []) ∧ (p → m = 0))) ∧ r = .sl nx m ∧ (All acc' → (m = m' ∧ m ≤ 1048576 ∧ p) ∧ All acc3) ∧ c = R := by
      split at h
      · cases h; exact ⟨_, 0 < m, .inr (.inl ⟨rfl, id⟩), rfl, id, rfl⟩
      · cases h; exact ⟨_, m = 0, .inr (.inr ⟨rfl, id⟩), rfl, id, rfl⟩
      · cases h; exact ⟨_, True, .inl rfl, rfl, id, rfl⟩
    subst hrc
    obtain ⟨⟨hm1, hm2, hp⟩, hc3⟩ := hRp hc
    have hc2 := oneC_acc hone hc3
    obtain ⟨hc1, uy, hy1, hy2⟩ := ev_sound hk h4 hc2
    obtain ⟨hc0, ux, hx1, hx2⟩ := ev_sound hk h2 hc1
    obtain ⟨B, rfl⟩ := emptyA_sound hk.heap hem hx1
    obtain ⟨A, cap, news, rfl, hd, hl, hnews⟩ := hS _ hy1 hm1
    have h1s := oneC_sound hone hc3 hd
    obtain ⟨hu, _⟩ := hk.tv t _ (look_mem h1)
    obtain ⟨_, info, g1, g2, g3, g4⟩ := hk.tv el _ (look_mem h3)
    refine ⟨hc0, ?_⟩
    have hexec : ∀ {v : Value} {w' : World}, (Builtin.append_ #[t, t] o.type #[.slice B 0 0, .slice A m cap]).run P w = .ok v w' → (execOp a.eval o).run P w = .ok (.value v) w' := fun {v w'} e => by
      simp only [execOp, ho, resolve, invoke, builtin, Sem.run_bind, Sem.run_pure, Result.andThen_ok, List.map_toArray, List.map_cons, List.map_nil, hx2, hy2, e]
    rcases Nat.eq_zero_or_pos m with h0 | h0
    · subst h0
      have hn0 : news = [] := List.eq_nil_of_length_eq_zero (by simpa using hl)
      subst hn0
      have hsrc : Src P info.size t (.slice A 0 cap) 0 [] w := by
        cases A with
        | none => exact Src.ofNil w hu cap
        | some ad => exact Src.ofSlice w hu ad 0 cap [] (by simp) (fun q u hq => by simp at hq) (fun u hu => by cases hu)
      have hr := run_append_nothing (P := P) w t t o.type el info hu g1 B 0 0 (Nat.le_refl _) _ hsrc
      rcases hRc with hRc | ⟨_, h⟩ | ⟨hRc, _⟩
      · have hRc : c = .ro 0 ti.size d := hRc
        subst hRc
        refine ⟨.slice B 0 0, w, ⟨B, 0⟩, hexec hr, newC_one hn (Below.refl _ _) ?_ ?_, by simp [AV.den, envSet_same]⟩
        · exact ⟨_, [], envSet_same _ _ _, AV.denL_mono (envSet_le hn) _ _ hd, by simp, Nat.le_refl _, Nat.zero_le _, fun h => by simp at h⟩
        · rintro g ⟨h, _⟩; simp at h
      · exact absurd (h hp) (Nat.lt_irrefl 0)
      · subst hRc
        refine ⟨.slice B 0 0, w, ⟨B, 0⟩, hexec hr, newC_one hn (Below.refl _ _) ?_ ?_, by simp [AV.den, envSet_same]⟩
        · exact ⟨_, [], envSet_same _ _ _, rfl, by simp, Nat.le_refl _, Nat.zero_le _, fun h => by simp at h⟩
        · rintro g ⟨h, _⟩; simp at h
    · obtain ⟨ad, rfl, hcells⟩ := hnews (Nat.mul_pos h0 hpos)
      have hsrc : Src P info.size t (.slice (some ad) m cap) m news w := Src.ofSlice w hu ad m cap news (by rw [g2]; exact hl) hcells h1s
      have hold : (Builtin.firstCells info.size 0 (.slice B 0 0)).run P w.drew = .ok (([] : List Value)).toArray w.drew := by
        cases B with
        | none => exact run_firstCells_none w.drew _ 0 0 0
        | some b => exact run_firstCells_some w.drew info.size 0 b 0 0 [] (by simp) (fun q u hq => by simp at hq)
      have hmx : maxLen = 9223372036854775807 := by decide
      have hfit : Builtin.nextslicecap (0 + m) 0 * info.bytes ≤ 281474976710656 := by
        unfold Builtin.nextslicecap
        rw [if_pos (by omega), g3]
        have : (0 + m) * ti.bytes ≤ 1048576 * 16777216 := Nat.mul_le_mul (by omega) hby
        omega
      have hr := run_append_grow_src (P := P) w t t o.type el info ti.zero hu g1 g4 B 0 0 [] hold _ m news hsrc (by omega) (by omega) hfit
      have hge := grownCap_ge w (0 + m) 0 el
      have hle := grownCap_le_maxLen w (0 + m) 0 el (by omega)
      obtain ⟨C, hC⟩ : ∃ C, grownCap w (0 + m) 0 el = C := ⟨_, rfl⟩
      rw [hC] at hr hge hle
      rw [Nat.zero_add] at hr hge
      rcases hRc with rfl | hRc
      case inr =>
        rcases hRc with ⟨rfl, _⟩ | ⟨_, h⟩
        case inr => exact absurd (h hp) (by omega)
        refine ⟨_, _, ⟨some ⟨w.heap.size, 0, none⟩, C⟩, hexec hr, newC_one hn ⟨rfl, rfl, rfl, by simp, fun k hk => heap_alloc_old w.drew _ hk⟩ ?_ ?_, by simp [AV.den, envSet_same]⟩
        · refine ⟨_, news, envSet_same _ _ _, AV.denL_mono (envSet_le hn) _ _ hd, hl, .inr ⟨w.heap.size, C, _, rfl, Nat.zero_le _, heap_alloc_new w.drew _, hge, hle, ?_, ?_⟩⟩
          · simp only [List.nil_append, Array.size_append, List.size_toArray, size_zeroCells, hzs, hl, ← Nat.add_mul]
            congr 1
            omega
          · simp only [List.nil_append, Array.toList_append, ← hl]
            exact List.take_left
        · rintro g ⟨L, b, e1, e2, e3⟩
          rw [envSet_same] at e1
          cases e1; cases e2; subst e3
          exact .inl (Nat.le_refl _)
      refine ⟨_, _, ⟨some ⟨w.heap.size, 0, none⟩, C⟩, hexec hr, newC_one hn ⟨rfl, rfl, rfl, by simp, fun k hk => heap_alloc_old w.drew _ hk⟩ ?_ ?_, by simp [AV.den, envSet_same]⟩
      · refine ⟨_, news, envSet_same _ _ _, AV.denL_mono (envSet_le hn) _ _ hd, hl, hge, by rw [capOk_pos hpos]; exact hle, fun _ => ⟨_, rfl, fun q u hq => ?_⟩⟩
        rw [addr_zero, cell_of_row _ w.heap.size q _ el (0, 0) (heap_alloc_new w.drew _)]
        have hq2 : q < news.length := (List.getElem?_eq_some_iff.1 hq).1
        simp only [List.nil_append, Array.getElem?_append, List.size_toArray, hq2, if_true, List.getElem?_toArray]
        exact hq
      · rintro g ⟨_, L, b, e1, e2, e3⟩
        rw [envSet_same] at e1
        cases e1; cases e2; subst e3
        exact .inl (Nat.le_refl _)
  split at h
  · rename_i ti j m acc2 h3 h4
    split at h
    · rename_i m' sz d hb hj
      split at h
      · exact step h3 h4 (fun v hv e => src_sound (hk.heap.holds j _ hj) (.inr ⟨_, rfl⟩) hv e) (by assumption) (by assumption) (by assumption) h
      · cases h
    · rename_i m' sz d hb hj
      split at h
      · exact step h3 h4 (fun v hv e => src_sound (hk.heap.holds j _ hj) (.inl rfl) hv e) (by assumption) (by assumption) (by assumption) h
      · cases h
    · cases h
  · rename_i ti j e m acc2 h3 h4
    split at h
    · rename_i o' te sz n len d hb hj
      split at h
      · refine step h3 h4 (fun v hv em => ?_) (by assumption) (by assumption) (by assumption) h
        simp only [AV.den, Option.bind_eq_some_iff, Tb.den, Option.map_eq_some_iff] at hv
        obtain ⟨L, e1, r1, e2, rfl⟩ := hv
        obtain ⟨L', e3, hf⟩ := hk.heap.holds j _ hj
        rw [e1] at e3; cases e3
        obtain ⟨vs, g1, g2, _, _, g3, _⟩ := hf.2.2.1 e r1 e2
        subst em
        exact ⟨_, _, vs, rfl, g1 ρ, g2, g3⟩
      · cases h
    · cases h
  · cases h

set_option maxHeartbeats 1000000 in
theorem obj_ok (hI : Interp F U (fun k => look k T) (fun k => look k H) ρ a w) {o : Oper} {i g cap : Nat} {k k' : ObjK} (hi : look i H = some (.obj k)) (hρ : ρ i = some ⟨some ⟨g, 0, none⟩, cap⟩) {o0 o' : Obj} (hg : w.heap[g]? = some o0) (hk : k'.is ρ o') {r : AV} {v : Value}
    (hr : (execOp a.eval o).run P w = .ok (.value v) (w.putObj g o') ∨ ((execOp a.eval o).run P w = .ok .skip (w.putObj g o') ∧ v = undef)) (hv : r.den ρ = some v) (nx : Nat) : MutOk F U (fun k => look k T) P a o ρ w nx r (fun j => look j (setA i (.obj k') H)) := by
  have hlt : g < w.heap.size := (Array.getElem?_eq_some_iff.1 hg).1
  have hI2 := hI.setChunk (c := .obj k) (c' := .obj k') hi rfl rfl (by intro _; exact Iff.rfl) (g := g) ⟨_, _, hρ, rfl, rfl⟩ (w' := w.putObj g o') ⟨rfl, rfl, rfl, by simp, fun k _ hk => World.putObj_heap_other hk⟩ ⟨g, cap, o', hρ, hk, World.putObj_heap_same hlt⟩
  refine ⟨v, _, ρ, hr, hv, Env.le.refl _, hI2.sub (fun i L _ h => .inl h) (fun _ _ h => h) fun j d hj => ?_⟩
  rw [look_setA] at hj
  by_cases hji : j = i
  · subst hji
    rw [if_pos rfl, hi] at hj
    rw [upd_same]
    simpa using hj
  · rw [if_neg hji] at hj
    rw [upd_other _ _ hji]
    exact hj
theorem updE_sound {d : TypeDesc} {k : Value} (hd : keyD d k = true) {b : AV} {v : Value} (hb : b.den ρ = some v) : ∀ {l l' : List (Value × AV)} {n : Nat} {m : List MapEntry}, Ents ρ n l m → updE k b l = some l' → ∀ i,
    (∃ j e, Instr.findNow d k m i = some (some (i + j, e.val)) ∧ m[j]? = some e ∧ e.key = k ∧ Ents ρ n l' (m.set j { e with key := k, val := v }) ∧ l'.length = l.length) ∨
    (Instr.findNow d k m i = some none ∧ Ents ρ n l' (m ++ [⟨k, v, n + l.length⟩]) ∧ l'.length = l.length + 1)
  | [], l', n, m, he, h, i => by
    cases h
    rw [show m = _ from he]
    exact .inr ⟨rfl, ⟨v, [], hb, rfl, rfl⟩, rfl⟩
  | (k', a) :: l, l', n, m, ⟨u, m', h1, h2, h3⟩, h, i => by
    subst h2
    simp only [updE] at h
    split at h
    · rename_i hk
      cases h
      obtain ⟨e1, e2⟩ := keyB_same hd hk
      cases e2 rfl
      exact .inl ⟨0, _, by simp [Instr.findNow, e1], rfl, rfl, ⟨v, m', hb, rfl, h3⟩, rfl⟩
    · rename_i hk
      split at h
      · rename_i l2 hl
        cases h
        rcases updE_sound hd hb h3 hl (i + 1) with ⟨j, e, e1, e2, e3, e4, e5⟩ | ⟨e1, e2, e3⟩
        · exact .inl ⟨j + 1, e, by simp [Instr.findNow, (keyB_same hd hk).1, e1]; omega, by simpa using e2, e3, ⟨u, _, h1, rfl, e4⟩, by simp [e5]⟩
        · refine .inr ⟨by simp [Instr.findNow, (keyB_same hd hk).1, e1], ⟨u, _, h1, rfl, ?_⟩, by simp [e3]⟩
          have e : n + ((k', a) :: l).length = n + 1 + l.length := by simp; omega
          rw [e]
          exact e2
      · cases h
    · cases h
theorem modify_list (m : List MapEntry) (j : Nat) (e : MapEntry) (he : m[j]? = some e) (f : MapEntry → MapEntry) : m.toArray.modify j f = (m.set j (f e)).toArray := by
  apply Array.ext_getElem?
  intro i
  rw [Array.getElem?_modify]
  simp only [List.getElem?_toArray, List.getElem?_set]
  by_cases h : j = i
  · subst h
    obtain ⟨h1, h2⟩ := List.getElem?_eq_some_iff.1 he
    simp [h1, h2]
  · simp [h]
theorem setEnts_at : ∀ (l : List ByteArray) (n j : Nat), (setEnts n l)[j]? = (l[j]?).map fun s => ⟨.string s, .bool true, n + j⟩
  | [], n, j => by simp [setEnts]
  | s :: l, n, 0 => by simp [setEnts]
  | s :: l, n, j + 1 => by
    have e : n + 1 + j = n + (j + 1) := by omega
    simp [setEnts, setEnts_at l (n + 1) j, e]
theorem setEnts_snoc : ∀ (l : List ByteArray) (n : Nat) (s : ByteArray), setEnts n (l ++ [s]) = setEnts n l ++ [⟨.string s, .bool true, n + l.length⟩]
  | [], n, s => by simp [setEnts]
  | x :: l, n, s => by simp [setEnts, setEnts_snoc l (n + 1) s]; omega
theorem ixEnts_snoc : ∀ (l : List ByteArray) (n : Nat) (s : ByteArray), ixEnts n (l ++ [s]) = ixEnts n l ++ [⟨Value.string s, .int .i64 ((n + l.length : Nat) : Int), n + l.length⟩]
  | [], n, s => by simp [ixEnts]
  | x :: l, n, s => by simp [ixEnts, ixEnts_snoc l (n + 1) s]; omega
theorem isetEnts_at : ∀ (l : List Int) (n j : Nat), (isetEnts n l)[j]? = (l[j]?).map fun s => ⟨Value.int .i64 s, .bool true, n + j⟩
  | [], n, j => by simp [isetEnts]
  | s :: l, n, 0 => by simp [isetEnts]
  | s :: l, n, j + 1 => by
    have e : n + 1 + j = n + (j + 1) := by omega
    simp [isetEnts, isetEnts_at l (n + 1) j, e]
theorem isetEnts_snoc : ∀ (l : List Int) (n : Nat) (s : Int), isetEnts n (l ++ [s]) = isetEnts n l ++ [⟨Value.int .i64 s, .bool true, n + l.length⟩]
  | [], n, s => by simp [isetEnts]
  | x :: l, n, s => by simp [isetEnts, isetEnts_snoc l (n + 1) s]; omega
theorem upd_ok (hI : Interp F U (fun k => look k T) (fun k => look k H) ρ a w) (hk : Know cfg P (fun k => look k T) (fun k => look k H) ρ a w) {o : Oper} {nx : Nat} {t : TypeId} {m k x : Operand} {acc acc' : List Cd} {r : AV} {H' : List (Nat × Chunk)}
    (ho : execOp a.eval o = (do Instr.mapUpdate t (a.eval m) (a.eval k) (a.eval x); pure .skip))
    (h : (match ev cfg T acc m with
    | some (.mp i, acc1) => match ev cfg T acc1 k with
      | some (.lit key, acc2) => match ev cfg T acc2 x with
        | some (v, acc3) => match look t cfg.tys, look i H with
          | some ⟨.map kt _, _, _, _⟩, some (.obj (.map es)) => match look kt cfg.tys with
            | some ⟨kd, _, _, _⟩ => match keyD kd key, updE key v es with
              | true, some es' => forceK (setA i (.obj (.map es')) H) [] fun H' => some (.lit undef, H', acc3)
              | _, _ => none
            | none => none
          | some ⟨.map kt _, _, _, _⟩, some (.obj (.set l)) => match look kt cfg.tys, key, v with
            | some ⟨.string, _, _, _⟩, .string s, .lit (.bool true) => forceK (setA i (.obj (.set (setU l s))) H) [] fun H' => some (.lit undef, H', acc3)
            | _, _, _ => none
          | some ⟨.map kt _, _, _, _⟩, some (.obj (.iset l)) => match look kt cfg.tys, key, v with
            | some ⟨.int .i64, _, _, _⟩, .int .i64 s, .lit (.bool true) => forceK (setA i (.obj (.iset (setI l s))) H) [] fun H' => some (.lit undef, H', acc3)
            | _, _, _ => none
          | some ⟨.map kt _, _, _, _⟩, some (.obj (.ix l)) => match look kt cfg.tys, key, v with
            | some ⟨.string, _, _, _⟩, .string s, .lit (.int .i64 q) => forceK (setA i (.obj (.ix (l ++ [s]))) H) [] fun H' => some (.lit undef, H', cd (memS l s = false ∧ q = (l.length : Int)) :: acc3)
            | _, _, _ => none
          | _, _ => none
        | none => none
      | _ => none
    | _ => none) = some (r, H', acc')) (hc : All acc') : All acc ∧ MutOk F U (fun k => look k T) P a o ρ w nx r (fun k => look k H') := by
  split at h
  case h_2 => cases h
  rename_i i acc1 h1
  split at h
  case h_2 => cases h
  rename_i key acc2 h2
  split at h
  case h_2 => cases h
  rename_i v acc3 h3
  have finA : All acc3 → All acc ∧ ∃ L ad u, ρ i = some L ∧ L.ad = some ad ∧ a.eval m = .map (some ad.block) ∧ a.eval k = key ∧ v.den ρ = some u ∧ a.eval x = u := by
    intro hc
    obtain ⟨hc2, u, e1, e2⟩ := ev_sound hk h3 hc
    obtain ⟨hc1, u2, e3, e4⟩ := ev_sound hk h2 hc2
    obtain ⟨hc0, u3, e5, e6⟩ := ev_sound hk h1 hc1
    simp only [AV.den, Option.some.injEq] at e3
    subst e3
    simp only [AV.den, Option.bind_eq_some_iff, Option.map_eq_some_iff] at e5
    obtain ⟨L, f1, ad, f2, rfl⟩ := e5
    exact ⟨hc0, L, ad, u, f1, f2, e6, e4, e1, e2⟩
  have fin : acc3 = acc' → All acc ∧ ∃ L ad u, ρ i = some L ∧ L.ad = some ad ∧ a.eval m = .map (some ad.block) ∧ a.eval k = key ∧ v.den ρ = some u ∧ a.eval x = u := by
    rintro rfl
    exact finA hc
  split at h
  · rename_i kt _ _ _ _ es ht hi
    split at h
    case h_2 => cases h
    rename_i kd _ _ _ hkt
    split at h
    case h_2 => cases h
    rename_i es' hkd hu
    rw [force_eq] at h
    cases h
    obtain ⟨hc0, L, ad, u, e1, e2, e3, e4, e5, e6⟩ := fin rfl
    refine ⟨hc0, ?_⟩
    obtain ⟨g, cap, o', f1, ⟨me, f2, f3⟩, f4⟩ := hI.heap.holds i _ hi
    rw [f1] at e1; cases e1; cases e2
    subst f3
    have hut := (hk.tv t _ (look_mem ht)).1
    have huk := (hk.tv kt _ (look_mem hkt)).1
    rcases updE_sound hkd e5 f2 hu 0 with ⟨j, e, q1, q2, q3, q4, q5⟩ | ⟨q1, q2, q3⟩
    · rw [Nat.zero_add] at q1
      refine obj_ok hI hi f1 f4 (k' := .map es') (o' := .map (me.set j { e with key := key, val := u }).toArray es'.length) ⟨_, q4, rfl⟩ (v := undef) (.inr ⟨?_, rfl⟩) (by simp [AV.den]) nx
      rw [ho, e3, e4, e6]
      simp only [Instr.mapUpdate, Sem.run_bind, run_underlying hut, MapKept.run_getObj_map f4, MapKept.run_checkKey huk (keyD_is hkd), MapKept.run_findKey huk q1, Result.andThen_ok, List.getElem?_toArray, q2, Option.map_some, Option.getD_some, q3, MapKept.run_keyThatStays (keyD_is hkd), MapKept.run_setObj_map _ f4, Sem.run_pure]
      rw [modify_list me j e q2 _, q5]
      rfl
    · refine obj_ok hI hi f1 f4 (k' := .map es') (o' := .map (me ++ [(⟨key, u, 0 + es.length⟩ : MapEntry)]).toArray es'.length) ⟨_, q2, rfl⟩ (v := undef) (.inr ⟨?_, rfl⟩) (by simp [AV.den]) nx
      rw [ho, e3, e4, e6]
      simp only [Instr.mapUpdate, Sem.run_bind, run_underlying hut, MapKept.run_getObj_map f4, MapKept.run_checkKey huk (keyD_is hkd), MapKept.run_findKey huk q1, Result.andThen_ok, MapKept.run_setObj_map _ f4, Sem.run_pure]
      rw [q3, Nat.zero_add]
      simp only [List.push_toArray]
      rfl
  · rename_i kt _ _ _ _ l ht hi
    split at h
    case h_2 => cases h
    rename_i _ _ _ s hkt
    rw [force_eq] at h
    cases h
    obtain ⟨hc0, L, ad, u, e1, e2, e3, e4, e5, e6⟩ := fin rfl
    refine ⟨hc0, ?_⟩
    obtain ⟨g, cap, o', f1, f3, f4⟩ := hI.heap.holds i _ hi
    rw [f1] at e1; cases e1; cases e2
    have f3 : o' = .map (setEnts 0 l).toArray l.length := f3
    subst f3
    simp only [AV.den, Option.some.injEq] at e5
    subst e5
    have hut := (hk.tv t _ (look_mem ht)).1
    have huk := (hk.tv kt _ (look_mem hkt)).1
    have hks : MapKept.IsKey .string (.string s) := trivial
    refine obj_ok hI hi f1 f4 (k' := .set (setU l s)) (o' := .map (setEnts 0 (setU l s)).toArray (setU l s).length) rfl (v := undef) (.inr ⟨?_, rfl⟩) (by simp [AV.den]) nx
    rw [ho, e3, e4, e6]
    have q1 := findSet (s := s) l 0 0
    have hm := memS_find l s
    cases hf : l.findIdx? (fun x => decide (s = x)) with
    | some j =>
      rw [hf] at q1 hm
      have hm : memS l s = true := hm
      obtain ⟨hj, hjs, _⟩ := List.findIdx?_eq_some_iff_getElem.1 hf
      have hjs : s = l[j] := of_decide_eq_true hjs
      have hat : (setEnts 0 l)[j]? = some ⟨.string s, .bool true, j⟩ := by rw [setEnts_at, List.getElem?_eq_getElem hj, ← hjs]; simp
      simp only [Instr.mapUpdate, Sem.run_bind, run_underlying hut, MapKept.run_getObj_map f4, MapKept.run_checkKey huk hks, MapKept.run_findKey huk q1, Result.andThen_ok, List.getElem?_toArray, Nat.zero_add, hat, Option.map_some, Option.getD_some, MapKept.run_keyThatStays hks, MapKept.run_setObj_map _ f4, Sem.run_pure]
      rw [modify_list _ j _ hat _]
      have : (setEnts 0 l).set j ⟨.string s, .bool true, j⟩ = setEnts 0 l := by
        apply List.ext_getElem?
        intro q
        rw [List.getElem?_set]
        by_cases h : j = q
        · subst h
          obtain ⟨g1, g2⟩ := List.getElem?_eq_some_iff.1 hat
          simp [g1, g2]
        · simp [h]
      rw [this]
      unfold setU
      rw [hm]
      rfl
    | none =>
      rw [hf] at q1 hm
      have hm : memS l s = false := hm
      simp only [Instr.mapUpdate, Sem.run_bind, run_underlying hut, MapKept.run_getObj_map f4, MapKept.run_checkKey huk hks, MapKept.run_findKey huk q1, Result.andThen_ok, MapKept.run_setObj_map _ f4, Sem.run_pure]
      unfold setU
      rw [hm]
      simp only [setEnts_snoc, List.push_toArray, List.length_append, List.length_cons, List.length_nil, Nat.zero_add]
      rfl
  · rename_i kt _ _ _ _ l ht hi
    split at h
    case h_2 => cases h
    rename_i _ _ _ s hkt
    rw [force_eq] at h
    cases h
    obtain ⟨hc0, L, ad, u, e1, e2, e3, e4, e5, e6⟩ := fin rfl
    refine ⟨hc0, ?_⟩
    obtain ⟨g, cap, o', f1, f3, f4⟩ := hI.heap.holds i _ hi
    rw [f1] at e1; cases e1; cases e2
    have f3 : o' = .map (isetEnts 0 l).toArray l.length := f3
    subst f3
    simp only [AV.den, Option.some.injEq] at e5
    subst e5
    have hut := (hk.tv t _ (look_mem ht)).1
    have huk := (hk.tv kt _ (look_mem hkt)).1
    have hks : MapKept.IsKey (.int .i64) (.int .i64 s) := rfl
    refine obj_ok hI hi f1 f4 (k' := .iset (setI l s)) (o' := .map (isetEnts 0 (setI l s)).toArray (setI l s).length) rfl (v := undef) (.inr ⟨?_, rfl⟩) (by simp [AV.den]) nx
    rw [ho, e3, e4, e6]
    have q1 := findISet (s := s) l 0 0
    have hm := memI_find l s
    cases hf : l.findIdx? (fun x => decide (s = x)) with
    | some j =>
      rw [hf] at q1 hm
      have hm : memI l s = true := hm
      obtain ⟨hj, hjs, _⟩ := List.findIdx?_eq_some_iff_getElem.1 hf
      have hjs : s = l[j] := of_decide_eq_true hjs
      have hat : (isetEnts 0 l)[j]? = some ⟨.int .i64 s, .bool true, j⟩ := by rw [isetEnts_at, List.getElem?_eq_getElem hj, ← hjs]; simp
      simp only [Instr.mapUpdate, Sem.run_bind, run_underlying hut, MapKept.run_getObj_map f4, MapKept.run_checkKey huk hks, MapKept.run_findKey huk q1, Result.andThen_ok, List.getElem?_toArray, Nat.zero_add, hat, Option.map_some, Option.getD_some, MapKept.run_keyThatStays hks, MapKept.run_setObj_map _ f4, Sem.run_pure]
      rw [modify_list _ j _ hat _]
      have : (isetEnts 0 l).set j ⟨.int .i64 s, .bool true, j⟩ = isetEnts 0 l := by
        apply List.ext_getElem?
        intro q
        rw [List.getElem?_set]
        by_cases h : j = q
        · subst h
          obtain ⟨g1, g2⟩ := List.getElem?_eq_some_iff.1 hat
          simp [g1, g2]
        · simp [h]
      rw [this]
      unfold setI
      rw [hm]
      rfl
    | none =>
      rw [hf] at q1 hm
      have hm : memI l s = false := hm
      simp only [Instr.mapUpdate, Sem.run_bind, run_underlying hut, MapKept.run_getObj_map f4, MapKept.run_checkKey huk hks, MapKept.run_findKey huk q1, Result.andThen_ok, MapKept.run_setObj_map _ f4, Sem.run_pure]
      unfold setI
      rw [hm]
      simp only [isetEnts_snoc, List.push_toArray, List.length_append, List.length_cons, List.length_nil, Nat.zero_add]
      rfl
  · rename_i kt _ _ _ _ l ht hi
    split at h
    case h_2 => cases h
    rename_i _ _ _ s q hkt
    rw [force_eq] at h
    cases h
    obtain ⟨⟨hnew, hql⟩, hc3⟩ := hc
    obtain ⟨hc0, L, ad, u, e1, e2, e3, e4, e5, e6⟩ := finA hc3
    refine ⟨hc0, ?_⟩
    obtain ⟨g, cap, o', f1, f3, f4⟩ := hI.heap.holds i _ hi
    rw [f1] at e1; cases e1; cases e2
    have f3 : o' = .map (ixEnts 0 l).toArray l.length := f3
    subst f3
    simp only [AV.den, Option.some.injEq] at e5
    subst e5
    have hut := (hk.tv t _ (look_mem ht)).1
    have huk := (hk.tv kt _ (look_mem hkt)).1
    have hks : MapKept.IsKey .string (.string s) := trivial
    refine obj_ok hI hi f1 f4 (k' := .ix (l ++ [s])) (o' := .map (ixEnts 0 (l ++ [s])).toArray (l ++ [s]).length) rfl (v := undef) (.inr ⟨?_, rfl⟩) (by simp [AV.den]) nx
    rw [ho, e3, e4, e6]
    have q1 := findIx (s := s) l 0 0
    have hm := memS_find l s
    rw [hnew] at hm
    have hf : l.findIdx? (fun x => decide (s = x)) = none := by
      cases hf : l.findIdx? (fun x => decide (s = x)) with
      | none => rfl
      | some j => rw [hf] at hm; cases hm
    rw [hf] at q1
    simp only [Instr.mapUpdate, Sem.run_bind, run_underlying hut, MapKept.run_getObj_map f4, MapKept.run_checkKey huk hks, MapKept.run_findKey huk q1, Result.andThen_ok, MapKept.run_setObj_map _ f4, Sem.run_pure]
    rw [hql]
    simp only [ixEnts_snoc, List.push_toArray, List.length_append, List.length_cons, List.length_nil, Nat.zero_add]
    rfl
  · cases h

/-- An operation that makes a chunk. -/
theorem new_ok (hI : Interp F U (fun k => look k T) (fun k => look k H) ρ a w) {nx : Nat} (hnx : ¬ U nx) (hm : ¬ nx < F.m) {o : Oper} {c : Chunk} {L : Loc} {w' : World} {r : AV} {v : Value} (hc : c.holds (envSet ρ nx L) nx w') (hocc : ∀ g, c.occ (envSet ρ nx L) nx g → w.heap.size ≤ g) (hb : Below w.heap.size w w')
    (hr : (execOp a.eval o).run P w = .ok (.value v) w') (hv : r.den (envSet ρ nx L) = some v) : MutOk F U (fun k => look k T) P a o ρ w nx r (fun k => look k ((nx, c) :: H)) := by
  have hn : ρ nx = none := by
    cases e : ρ nx with
    | none => rfl
    | some L => exact absurd (hI.dom nx L e) hnx
  have h4 : NewC (· = nx) ρ (envSet ρ nx L) (fun k => look k H) (oneMap nx c) w w' := newC_one hn hb hc fun g hg => .inl (hocc g hg)
  have hheap := hI.heap.add h4
  refine ⟨v, w', _, .inl hr, hv, h4.le, (hI.step h4.le (fun i hi => h4.only i (by rintro rfl; exact hm hi)) (U' := fun i => U i ∨ i = nx) (fun i L' e => ?_) hheap (fun g hg => ?_) (hI.touch.trans (Touch.of_below (s := fun _ => False) h4.below) (fun _ h => h.elim)) (KeepM.below h4.below)).sub (fun _ _ _ h => h) (fun _ _ h => h) (fun k c' h => ?_)⟩
  · by_cases hi : i = nx
    · exact .inr hi
    · rw [h4.only i hi] at e
      exact .inl (hI.dom i L' e)
  · rcases owned_add hI.heap h4 hg with h6 | h6
    · left; have := hI.touch.size; omega
    · exact hI.fresh g h6
  · (try dsimp only at h)
    rw [look_cons] at h
    unfold orMap oneMap
    by_cases hk : k = nx
    · subst hk
      rw [if_pos rfl] at h ⊢
      simpa using h
    · rw [if_neg hk] at h ⊢
      simpa using h

theorem mutOp_sound (hI : Interp F U (fun k => look k T) (fun k => look k H) ρ a w) (hk : Know cfg P (fun k => look k T) (fun k => look k H) ρ a w) {nx : Nat} (hnx : ¬ U nx) (hm : ¬ nx < F.m) {o : Oper} {acc acc' : List Cd} {r : AV} {H' : List (Nat × Chunk)}
    {hb : Option Bool} (h : mutOp cfg T H nx hb o acc = some (r, H', acc')) (hc : All acc') : All acc ∧ MutOk F U (fun k => look k T) P a o ρ w nx r (fun k => look k H') := by
  unfold mutOp at h
  split at h
  · rename_i t x y ho
    split at h
    · rename_i ti i e sz j acc1 h1 h2
      split at h
      · rename_i v acc2 c h3 h4
        split at h
        · rename_i l h5
          split at h
          · rename_i h6
            split at h
            · rename_i c' acc3 h7
              rw [force_eq] at h
              cases h
              simp only [Bool.and_eq_true] at h6
              have hc2 : All acc2 := by
                have : ∀ {c c' : Chunk} {acc acc' : List Cd}, storeC c e sz j l acc = some (c', acc') → All acc' → All acc := by
                  intro c c' acc acc' h hc
                  unfold storeC at h
                  split at h
                  · cases h
                  · split at h
                    · rw [force_eq] at h; cases h; exact hc
                    · cases h
                  · split at h
                    · split at h
                      · rename_i h8
                        cases h
                        unfold setC at h8
                        simp only [force_eq] at h8
                        (repeat' split at h8) <;> first | (cases h8; done) | (cases h8; exact hc) | (cases h8; exact hc.2) | (cases h8; exact hc.2.2)
                      · cases h
                    · cases h
                  · cases h
                  · cases h
                  · cases h
                exact this h7 hc
              obtain ⟨hc1, uy, hy1, hy2⟩ := ev_sound hk h3 hc2
              obtain ⟨hc0, ux, hx1, hx2⟩ := ev_sound hk h2 hc1
              exact ⟨hc0, store_ok hI hk ho h1 hx1 hx2 hy1 hy2 h5 (Nat.eq_of_beq_eq_true h6.1) h6.2 h4 h7 hc nx⟩
            · cases h
          · cases h
        · cases h
      · cases h
    · rename_i ti i e k sz f acc1 h1 h2
      split at h
      · rename_i v acc2 te sz' n len c h3 h4
        split at h
        · rename_i l h5
          split at h
          · rename_i h6
            split at h
            · rename_i c' acc3 h7
              rw [force_eq] at h
              cases h
              simp only [Bool.and_eq_true] at h6
              cases Nat.eq_of_beq_eq_true h6.2
              have hc2 := setC_acc h7 hc
              obtain ⟨hc1, uy, hy1, hy2⟩ := ev_sound hk h3 hc2.2
              obtain ⟨hc0, ux, hx1, hx2⟩ := ev_sound hk h2 hc1
              exact ⟨hc0, storeT_ok hI hk ho h1 hx1 hx2 hy1 hy2 h5 (Nat.eq_of_beq_eq_true h6.1.1.1) h6.1.1.2 h6.1.2 h4 h7 hc nx⟩
            · cases h
          · cases h
        · cases h
      · cases h
    · cases h
  · rename_i args ts ho
    split at h
    · rename_i x y t t' hargs hts
      have hargs' : args = #[x, y] := by apply Array.toList_inj.1; simpa using hargs
      have hts' : ts = #[t, t'] := by apply Array.toList_inj.1; simpa using hts
      subst hargs' hts'
      split at h
      · rename_i el _ _ _ vx acc1 htt h1 h2
        cases Nat.eq_of_beq_eq_true htt
        have step : ∀ {ti : TyI} {j m : Nat} {yv : AV} {acc2 : List Cd} {m' sz : Nat} {d : Cont} {acc3 : List Cd}, look el cfg.tys = some ti → ev cfg T acc1 y = some (yv, acc2) → (∀ v, yv.den ρ = some v → m = m' → ∃ A cap news, v = .slice A m cap ∧ AV.denL ρ d.cells = some news ∧ news.length = m * sz ∧ (0 < m * sz → ∃ ad, A = some ad ∧ ∀ q u, news[q]? = some u → w.cell? (ad.add q) = some u)) → (ti.zero.cells.size = ti.size ∧ 0 < ti.size ∧ ti.bytes ≤ 16777216) → sz = ti.size → oneC d acc2 = some acc3 →
            appendTo H nx j m el m' sz d vx acc3 = some (r, H', acc') → All acc ∧ MutOk F U (fun k => look k T) P a o ρ w nx r (fun k => look k H') := by
          clear h
          intro ti j m yv acc2 m' sz d acc3 h3 h4 hsrc hh hsz hone h
          obtain ⟨hzs, hpos, hby⟩ := hh
          subst hsz
          unfold appendTo at h
          split at h
          · cases h
            obtain ⟨⟨hm1, hm2⟩, hc3⟩ := hc
            have hc2 := oneC_acc hone hc3
            obtain ⟨hc1, uy, hy1, hy2⟩ := ev_sound hk h4 hc2
            obtain ⟨hc0, ux, hx1, hx2⟩ := ev_sound hk h2 hc1
            simp only [AV.den, Option.some.injEq] at hx1
            subst hx1
            obtain ⟨A, cap, news, rfl, hd, hl, hnews⟩ := hsrc _ hy1 hm1
            refine ⟨hc0, ?_⟩
            have := append_ok (n := 0) (xs := []) (H0 := H) hI hk ho h1 h3 hzs hpos hby (fun _ _ h => h) (World.ownsRow_nil w 0 el ti.size) hx2 (by intro g hg; simp [Value.ownBlock] at hg) hy2 hl hnews (oneC_sound hone hc3 hd) (by omega)
              (cc := catC (.exp []) d) (by rw [catC_cells]; simpa [Cont.cells] using hd) hnx hm
            simpa using this
          · rename_i i n
            split at h
            · rename_i el' n' sz' c hi hij
              split at h
              · rename_i hb
                rw [force_eq] at h
                cases h
                simp only [Bool.and_eq_true] at hb
                cases Nat.eq_of_beq_eq_true hb.1
                cases Nat.eq_of_beq_eq_true hb.2
                obtain ⟨⟨hm1, hn1, hm2⟩, hc3⟩ := hc
                subst hn1
                have hc2 := oneC_acc hone hc3
                obtain ⟨hc1, uy, hy1, hy2⟩ := ev_sound hk h4 hc2
                obtain ⟨hc0, ux, hx1, hx2⟩ := ev_sound hk h2 hc1
                have hne : i ≠ j := fun e => by subst e; simp at hij
                obtain ⟨A, cap, news, rfl, hd, hl, hnews⟩ := hsrc _ hy1 hm1
                simp only [AV.den, Option.map_eq_some_iff] at hx1
                obtain ⟨L, e1, rfl⟩ := hx1
                have hhi := hI.heap.holds i _ hi
                obtain ⟨L', vs, e2, e3, e4⟩ := hhi
                rw [e1] at e2; cases e2
                refine ⟨hc0, ?_⟩
                refine append_ok (H0 := delA i H) hI hk ho h1 h3 hzs hpos hby (fun k c h => (look_del h).2) e4 hx2 ?_ hy2 hl hnews (oneC_sound hone hc3 hd) hm2 (by rw [catC_cells]; exact denL_append e3 hd) hnx hm
                intro g hg
                have hocc : Chunk.occ ρ i g (.row el n ti.size c) := by
                  cases hL : L.ad with
                  | none => rw [hL] at hg; simp [Value.ownBlock] at hg
                  | some b => rw [hL] at hg; simp [Value.ownBlock] at hg; exact ⟨L, b, e1, hL, hg⟩
                exact ⟨⟨i, _, hi, rfl, hocc⟩, fun k c hkc => hI.heap.apart i _ hi rfl k c (look_del hkc).2 (look_del hkc).1 g hocc⟩
              · cases h
            · cases h
          · cases h
        split at h
        · rename_i ti j m acc2 h3 h4
          split at h
          · rename_i t2 m' sz d hb hj
            split at h
            · rename_i acc3 hs hone
              simp only [Bool.and_eq_true] at hb
              exact step h3 h4 (fun v hv e => src_sound (hI.heap.holds j _ hj) (.inr ⟨_, rfl⟩) hv e) ⟨Nat.eq_of_beq_eq_true hb.1.1, Nat.le_of_ble_eq_true hb.1.2, Nat.le_of_ble_eq_true hb.2⟩ (Nat.eq_of_beq_eq_true hs) hone h
            · cases h
          · rename_i m' sz d hb hj
            split at h
            · rename_i acc3 hs hone
              simp only [Bool.and_eq_true] at hb
              exact step h3 h4 (fun v hv e => src_sound (hI.heap.holds j _ hj) (.inl rfl) hv e) ⟨Nat.eq_of_beq_eq_true hb.1.1, Nat.le_of_ble_eq_true hb.1.2, Nat.le_of_ble_eq_true hb.2⟩ (Nat.eq_of_beq_eq_true hs) hone h
            · cases h
          · cases h
        · rename_i ti j e m acc2 h3 h4
          split at h
          · rename_i o te sz n len d hb hj
            split at h
            · rename_i acc3 hs hone
              simp only [Bool.and_eq_true] at hb
              refine step h3 h4 (fun v hv em => ?_) ⟨Nat.eq_of_beq_eq_true hb.1.1, Nat.le_of_ble_eq_true hb.1.2, Nat.le_of_ble_eq_true hb.2⟩ (Nat.eq_of_beq_eq_true hs) hone h
              simp only [AV.den, Option.bind_eq_some_iff, Tb.den, Option.map_eq_some_iff] at hv
              obtain ⟨L, e1, r1, e2, rfl⟩ := hv
              obtain ⟨L', e3, hf⟩ := hI.heap.holds j _ hj
              rw [e1] at e3; cases e3
              obtain ⟨vs, g1, g2, _, _, g3, _⟩ := hf.2.2.1 e r1 e2
              subst em
              exact ⟨_, _, vs, rfl, g1 ρ, g2, g3⟩
            · cases h
          · cases h
        · cases h
      · rename_i el _ _ _ acc1 hbt h1 h2
        split at h
        · rename_i ki _ _ _ ti kq q acc2 h3 h4 h5
          split at h
          · rename_i hb
            simp only [Bool.and_eq_true] at hb
            have hzs : ti.zero.cells.size = ti.size := Nat.eq_of_beq_eq_true hb.1.1
            have hsz : 0 < ti.size := Nat.le_of_ble_eq_true hb.1.2
            have hby : ti.bytes ≤ 16777216 := Nat.le_of_ble_eq_true hb.2
            rw [force_eq] at h
            cases h
            obtain ⟨⟨hq0, hq1⟩, hc2⟩ := hc
            obtain ⟨hc1, uy, hy1, hy2⟩ := ev_sound hk h5 hc2
            obtain ⟨hc0, ux, hx1, hx2⟩ := ev_sound hk h2 hc1
            simp only [AV.den, Option.some.injEq] at hx1 hy1
            subst hx1 hy1
            refine ⟨hc0, ?_⟩
            obtain ⟨info, g1, g2, g3, g4⟩ := (hk.tv el ti (look_mem h4)).2
            have hu := (hk.tv t _ (look_mem h1)).1
            have hu' := (hk.tv t' _ (look_mem h3)).1
            obtain ⟨n, rfl⟩ : ∃ n : Nat, q = n := ⟨q.toNat, by omega⟩
            simp only [Int.toNat_natCast]
            have hrun := Lib.run_append_nil_zeros (P := P) w t t' o.type el info ti.zero kq ki hu hu' g1 g4 n (by omega) (by omega) (by omega) (by rw [g3]; have : n * ti.bytes ≤ 1048576 * 16777216 := Nat.mul_le_mul (by omega) hby; omega)
            have hzc : ∀ m, Builtin.zeroCells ti.zero.cells m = (repL m ti.zero.cells.toList).toArray := fun m => repL_made ti.zero.cells m (by omega)
            have hcap := grownCap_ge w n 0 el
            have hcap2 := grownCap_le_maxLen w n 0 el (by simp only [maxLen]; omega)
            have hlen : ∀ m, (repL m ti.zero.cells.toList).length = m * ti.size := fun m => by rw [repL_len]; simp [hzs]
            refine new_ok hI hnx hm (L := ⟨some ⟨w.heap.size, 0, none⟩, grownCap w n 0 el⟩) (v := .slice (some ⟨w.heap.size, 0, none⟩) n (grownCap w n 0 el)) ⟨_, repL n ti.zero.cells.toList, envSet_same _ _ _, repL_den (denL_lits _ _) n, hlen n, .inr ⟨w.heap.size, grownCap w n 0 el, _, rfl, Nat.zero_le _, heap_alloc_new w.drew _, hcap, hcap2, ?_, ?_⟩⟩ ?_ ?_ ?_ (by simp [AV.den, envSet_same]) (w' := w.drew.alloc (.cells (Builtin.zeroCells ti.zero.cells n ++ Builtin.zeroCells ti.zero.cells (grownCap w n 0 el - n)) el))
            · rw [hzc, hzc]
              simp only [Array.size_append, List.size_toArray, hlen]
              rw [← Nat.add_mul, show n + (grownCap w n 0 el - n) = grownCap w n 0 el by omega]
            · rw [hzc]
              simp only [Array.toList_append]
              rw [List.take_append_of_le_length (Nat.le_of_eq (hlen n).symm), List.take_of_length_le (Nat.le_of_eq (hlen n))]
            · rintro g ⟨L, b, e1, e2, e3⟩
              rw [envSet_same] at e1
              cases e1; cases e2; subst e3
              exact Nat.le_refl _
            · exact (Below.drew (Below.refl _ w)).alloc (Nat.le_refl _) _
            · simp only [execOp, ho, resolve, invoke, builtin, Sem.run_bind, Sem.run_pure, Result.andThen_ok, List.map_toArray, List.map_cons, List.map_nil, hx2, hy2, hrun]
          · cases h
        · cases h
      · cases h
    · cases h
  · rename_i args ts ho
    split at h
    · rename_i x y t t' hargs hts
      have hargs' : args = #[x, y] := by apply Array.toList_inj.1; simpa using hargs
      have hts' : ts = #[t, t'] := by apply Array.toList_inj.1; simpa using hts
      subst hargs' hts'
      split at h
      · rename_i el _ _ _ i n acc1 h1 h2
        split at h
        · rename_i ti j m acc2 h3 h4
          have step : ∀ {m' sz : Nat} {d : Cont} {cj : Chunk} {acc3 : List Cd}, look j H = some cj → (cj = .ro m' sz d ∨ ∃ t, cj = .row t m' sz d) → 0 < ti.size → sz = ti.size → oneC d acc2 = some acc3 →
              copyTo H i n j m el sz m' d acc3 = some (r, H', acc') → All acc ∧ MutOk F U (fun k => look k T) P a o ρ w nx r (fun k => look k H') := by
            clear h
            intro m' sz d cj acc3 hj hcj hpos hsz hone h
            subst hsz
            have hc3 : All acc3 := by
              unfold copyTo at h
              split at h
              · split at h
                · rw [force_eq] at h; cases h; exact hc.2
                · cases h
              · cases h
            have hc2 := oneC_acc hone hc3
            obtain ⟨hc1, uy, hy1, hy2⟩ := ev_sound hk h4 hc2
            obtain ⟨hc0, ux, hx1, hx2⟩ := ev_sound hk h2 hc1
            exact ⟨hc0, (copy_ok hI hk ho h1 h3 hx1 hx2 hy1 hy2 hpos hj hcj (fun vs hv => oneC_sound hone hc3 hv) h hc nx).2⟩
          split at h
          · rename_i t1 m' sz d hpos hj
            split at h
            · rename_i acc3 hsz hone
              exact step hj (.inr ⟨_, rfl⟩) (Nat.le_of_ble_eq_true hpos) (Nat.eq_of_beq_eq_true hsz) hone h
            · cases h
          · rename_i m' sz d hpos hj
            split at h
            · rename_i acc3 hsz hone
              exact step hj (.inl rfl) (Nat.le_of_ble_eq_true hpos) (Nat.eq_of_beq_eq_true hsz) hone h
            · cases h
          · cases h
        · cases h
      · cases h
    · cases h
  · rename_i t m k x ho
    exact upd_ok hI hk (by simp only [execOp, ho]) h hc
  · rename_i t m k x ho
    exact upd_ok hI hk (by simp only [execOp, ho]) h hc
  · rename_i x ho
    split at h
    · rename_i i acc1 h1
      split at h
      · rename_i s pos h2
        split at h
        · rename_i r' k acc2 h3
          rw [force_eq] at h
          cases h
          have hc1 : All acc1 := by
            unfold nextS at h3
            repeat' split at h3
            all_goals first | (cases h3; exact hc.2) | (cases h3; exact hc)
          obtain ⟨hc0, u, hu1, hu2⟩ := ev_sound hk h1 hc1
          refine ⟨hc0, ?_⟩
          obtain ⟨g, cap, o', f1, f2, f3⟩ := hI.heap.holds i _ h2
          have f2 : o' = .stringIter s pos := f2
          subst f2
          simp only [AV.den, f1, Option.bind_some, Option.map_some, Option.some.injEq, addr_zero] at hu1
          subst hu1
          have hu2 : a.eval x = .pointer (some ⟨g, 0, none⟩) := hu2
          have yes : pos < s.size → MutOk F U (fun k => look k T) P a o ρ w nx (.tup [.lit (.bool true), .lit (.int .i64 pos), .lit (.int .i32 (Utf8.decode s pos).1)]) (fun j => look j (setA i (.obj (.sit s (pos + (Utf8.decode s pos).2))) H)) := fun hp =>
            obj_ok hI h2 f1 f3 (k' := .sit s (pos + (Utf8.decode s pos).2)) (o' := .stringIter s (pos + (Utf8.decode s pos).2)) rfl (v := .tuple #[.bool true, .int .i64 pos, .int .i32 (Utf8.decode s pos).1])
              (.inl (by simp only [execOp, ho, hu2, Sem.run_bind, Go.Lib.run_next_any_at w g s pos o.type f3 hp, Result.andThen_ok, Sem.run_pure]; rfl)) (by simp [AV.den, AV.denL, listO]) nx
          have no : s.size ≤ pos → MutOk F U (fun k => look k T) P a o ρ w nx (.tup [.lit (.bool false)]) (fun j => look j (setA i (.obj (.sit s pos)) H)) := fun hp =>
            obj_ok hI h2 f1 f3 (k' := .sit s pos) (o' := .stringIter s pos) rfl (v := .tuple #[.bool false])
              (.inl (by
                simp only [execOp, ho, hu2, Sem.run_bind, Go.Lib.run_next_end_at w g s pos o.type f3 (by omega), Result.andThen_ok, Sem.run_pure]
                have : w.putObj g (.stringIter s pos) = w := by
                  unfold World.putObj
                  have := Array.getElem?_eq_some_iff.1 f3
                  obtain ⟨q1, q2⟩ := this
                  have e : w.heap.setIfInBounds g (.stringIter s pos) = w.heap := by
                    apply Array.ext_getElem?
                    intro j
                    rw [Array.getElem?_setIfInBounds]
                    by_cases hj : g = j
                    · subst hj; simp [q1, ← q2]
                    · simp [hj]
                  rw [e]
                rw [this])) (by simp [AV.den, AV.denL, listO]) nx
          unfold nextS at h3
          split at h3
          · cases h3; exact yes hc.1
          · cases h3; exact no hc.1
          · split at h3
            · rename_i hb
              simp only at h3
              cases h3
              exact yes (Nat.le_of_ble_eq_true hb)
            · rename_i hb
              cases h3
              refine no (Nat.le_of_not_lt fun h => ?_)
              have := Nat.ble_eq_true_of_le (show pos + 1 ≤ s.size from h)
              rw [show Nat.blt pos s.size = true from this] at hb; cases hb
        · cases h
      · cases h
    · cases h
  · rename_i t x hi' ho
    split at h
    · rename_i e _ _ _ vx acc1 h1 h2
      split at h
      · rename_i kq q acc2 ti h3 h4
        have hu := (hk.tv t _ (look_mem h1)).1
        have hs := tv_size (w := w) hk.tv h4
        have fin : ∀ {p : Prop} [Decidable p] {acc3 : List Cd}, acc3 = cd p :: acc2 → All acc3 → p ∧ All acc ∧ ∃ u, vx.den ρ = some u ∧ a.eval x = u ∧ a.eval hi' = .int kq q := by
          intro p _ acc3 e hc
          subst e
          obtain ⟨hp, hc2⟩ := hc
          obtain ⟨hc1, u2, e3, e4⟩ := ev_sound hk h3 hc2
          obtain ⟨hc0, u, e1, e2⟩ := ev_sound hk h2 hc1
          simp only [AV.den, Option.some.injEq] at e3
          subst e3
          exact ⟨hp, hc0, u, e1, e2, e4⟩
        split at h
        · cases h
          obtain ⟨rfl, hc0, u, e1, e2, e3⟩ := fin rfl hc
          simp only [AV.den, Option.some.injEq] at e1
          subst e1
          refine ⟨hc0, .slice none 0 0, w, ρ, .inl ?_, by simp [AV.den], Env.le.refl _, hI.sub (fun _ _ _ h => .inl h) (fun _ _ h => h) (fun _ _ h => h)⟩
          simp only [execOp, ho, e2, e3, Option.map_none, Option.map_some, Instr.sliceAt, Instr.slice, Sem.run_bind, run_underlying hu, Result.andThen_ok, hs, Sem.run_pure]
          simp [Instr.sliceBounds, Instr.sliceBound, asIntOf, hs]
        · rename_i i _
          split at h
          · rename_i te m sz c hi
            split at h
            · rename_i c' hsl
              rw [force_eq] at h
              cases h
              obtain ⟨⟨hq0, hqm⟩, hc0, u, e1, e2, e3⟩ := fin rfl hc
              refine ⟨hc0, ?_⟩
              obtain ⟨L, vs, f1, f2, f3⟩ := hI.heap.holds i _ hi
              simp only [AV.den, f1, Option.map_some, Option.some.injEq] at e1
              subst e1
              have hqn : q.toNat ≤ m := by omega
              have hden := sliceC_den hsl f2 f3.1 (Nat.zero_le _) hqn
              simp only [Nat.zero_mul, List.drop_zero, Nat.sub_zero] at hden
              have hlen : vs.length = m * sz := f3.1
              have hle : q.toNat * sz ≤ m * sz := Nat.mul_le_mul_right _ hqn
              have hrow : w.ownsRow 0 te sz (.slice L.ad q.toNat L.cap) q.toNat (vs.take (q.toNat * sz)) := by
                refine ⟨by rw [List.length_take, hlen]; omega, ?_⟩
                rcases f3.2 with ⟨g1, rfl⟩ | ⟨g, cap, cur, g1, g2, g3, g4, g5, g6, g7⟩
                · injection g1 with g1 g2 g3
                  left
                  have : q.toNat = 0 := by omega
                  rw [this, g1, g3]
                  exact ⟨rfl, rfl⟩
                · injection g1 with g1 g8 g9
                  refine .inr ⟨g, cap, cur, by rw [g1, g9], g2, g3, by omega, g5, g6, ?_⟩
                  rw [← g7, List.take_take, Nat.min_eq_left hle]
              have hcapm : m ≤ L.cap := by
                rcases f3.2 with ⟨g1, rfl⟩ | ⟨g, cap, cur, g1, g2, g3, g4, _⟩
                · exact Nat.zero_le _
                · injection g1 with g1 g8 g9; rw [g9]; exact g4
              have hI2 := hI.recont (c := .row te m sz c) (c' := .row te q.toNat sz c') hi rfl rfl (by intro _; exact Iff.rfl) ⟨L, _, f1, hden, hrow⟩
              refine ⟨.slice L.ad q.toNat L.cap, w, ρ, .inl ?_, by simp [AV.den, f1], Env.le.refl _, hI2.sub (fun _ _ _ h => .inl h) (fun _ _ h => h) fun j d hj => ?_⟩
              · simp only [execOp, ho, e2, e3, Option.map_none, Option.map_some, Instr.sliceAt, Instr.slice, Sem.run_bind, run_underlying hu, Result.andThen_ok, hs, Sem.run_pure]
                have hq : (0 : Int) ≤ q ∧ q ≤ (L.cap : Int) := by omega
                simp [Instr.sliceBounds, Instr.sliceBound, asIntOf, hq, hs]
                intro hne
                cases L.ad <;> simp [Addr.add]
              · rw [look_setA] at hj
                by_cases hji : j = i
                · subst hji
                  rw [if_pos rfl, hi] at hj
                  rw [upd_same]
                  simpa using hj
                · rw [if_neg hji] at hj
                  rw [upd_other _ _ hji]
                  exact hj
            · cases h
          · cases h
        · cases h
      · cases h
    · cases h
  · cases h
end
end Go.Sym

namespace Go.Sym
open Go.RowKit

/-- Which chunk of the state at hand a number of the other one stands for (or none: a nil slice). -/
abbrev Ren := List (Nat × Option Nat)

/-- The environment of the other numbers. -/
def renE (σ : Ren) (ρ : Env) : Env := fun c => match look c σ with
  | some (some i) => ρ i
  | some none => some ⟨none, 0⟩
  | none => none

/-- Whether two values are alike, as far as a test tells. -/
def val0 : Value → Value → Bool
  | .int k x, .int k' y => match kEq k k' with | true => decide (x = y) | false => false
  | .bool x, .bool y => decide (x = y)
  | .string x, .string y => decide (x = y)
  | .float k x, .float k' y => decide (k = k') && Nat.beq x y
  | .complex k x y, .complex k' x' y' => decide (k = k') && Nat.beq x x' && Nat.beq y y'
  | .slice none 0 0, .slice none 0 0 => true
  | .pointer none, .pointer none => true
  | .nilFunc, .nilFunc => true
  | .nilIface, .nilIface => true
  | _, _ => false
def valL : List Value → List Value → Bool
  | [], [] => true
  | v :: l, u :: m => match val0 v u with | true => valL l m | false => false
  | _, _ => false
def valB : Value → Value → Bool
  | .agg x, .agg y => valL x.toList y.toList
  | .tuple x, .tuple y => valL x.toList y.toList
  | x, y => val0 x y
theorem val0_eq {v u : Value} (h : val0 v u = true) : v = u := by
  unfold val0 at h
  split at h
  · split at h
    · rename_i hk
      cases kEq_eq hk
      rw [of_decide_eq_true h]
    · cases h
  · rw [of_decide_eq_true h]
  · rw [of_decide_eq_true h]
  · simp only [Bool.and_eq_true] at h
    rw [of_decide_eq_true h.1, Nat.eq_of_beq_eq_true h.2]
  · simp only [Bool.and_eq_true] at h
    rw [of_decide_eq_true h.1.1, Nat.eq_of_beq_eq_true h.1.2, Nat.eq_of_beq_eq_true h.2]
  all_goals first | rfl | cases h
theorem valL_eq : ∀ {l m : List Value}, valL l m = true → l = m
  | [], [], _ => rfl
  | v :: l, u :: m, h => by
    simp only [valL] at h
    split at h
    · rename_i hv; rw [val0_eq hv, valL_eq h]
    · cases h
  | [], _ :: _, h => by cases h
  | _ :: _, [], h => by cases h
theorem valB_eq {v u : Value} (h : valB v u = true) : v = u := by
  unfold valB at h
  split at h
  · rw [Array.toList_inj.1 (valL_eq h)]
  · rw [Array.toList_inj.1 (valL_eq h)]
  · exact val0_eq h
abbrev cv (v u : Value) : Cd := ⟨v = u, valB v u, valB_eq⟩
theorem cv_p (v u : Value) : (cv v u).p = (v = u) := rfl

def cmpV (v u : Value) (acc : List Cd) : Option (List Cd) :=
  match v, u with
  | .int k x, .int k' y => match kEq k k' with | true => some (cd (x = y) :: acc) | false => none
  | .bool x, .bool y => some (cd (x = y) :: acc)
  | v, u => some (cv v u :: acc)
theorem cmpV_sound {v u : Value} {acc acc' : List Cd} (h : cmpV v u acc = some acc') (hc : All acc') : All acc ∧ v = u := by
  unfold cmpV at h
  split at h
  · split at h
    · rename_i hk
      cases kEq_eq hk
      cases h
      exact ⟨hc.2, by rw [hc.1]⟩
    · cases h
  · cases h; exact ⟨hc.2, by rw [hc.1]⟩
  · cases h; exact ⟨hc.2, hc.1⟩

def isNil : Value → Bool
  | .slice none 0 0 => true
  | _ => false
theorem isNil_eq {u : Value} (h : isNil u = true) : u = .slice none 0 0 := by
  unfold isNil at h
  split at h
  · rfl
  · cases h
mutual
/-- The first value, in the other numbers, is the second one. -/
def cmpA (σ : Ren) : AV → AV → List Cd → Option (List Cd)
  | .lit v, .lit u, acc => cmpV v u acc
  | .ptr c e sz j, .ptr i e' sz' j', acc => match look c σ with
    | some (some i') => match Nat.beq i i' && Nat.beq sz sz' && Nat.beq j j' with
      | true => some (cd (e = e') :: acc)
      | false => none
    | _ => none
  | .sl c n, .sl i m, acc => match look c σ with
    | some (some i') => match Nat.beq i i' with
      | true => some (cd (n = m) :: acc)
      | false => none
    | _ => none
  | .sl c n, .lit u, acc => match isNil u with
    | true => match look c σ with
      | some none => some (cd (n = 0) :: acc)
      | _ => none
    | false => none
  | .agg l, .agg m, acc => cmpL σ l m acc
  | .agg l, .lit (.agg vs), acc => cmpL σ l (vs.toList.map AV.lit) acc
  | .tup l, .tup m, acc => cmpL σ l m acc
  | .fn f a b, .fn g c d, acc => match Nat.beq f g with
    | true => match cmpL σ a c acc with
      | some acc1 => cmpL σ b d acc1
      | none => none
    | false => none
  | .yld c, .yld i, acc => match look c σ with
    | some (some i') => match Nat.beq i i' with
      | true => some acc
      | false => none
    | _ => none
  | .mp c, .mp i, acc => match look c σ with
    | some (some i') => match Nat.beq i i' with
      | true => some acc
      | false => none
    | _ => none
  | .tb c (.row e n), .tb i (.row e' m), acc => match look c σ with
    | some (some i') => match Nat.beq i i' with
      | true => some (cd (e = e' ∧ n = m) :: acc)
      | false => none
    | _ => none
  | _, _, _ => none
def cmpL (σ : Ren) : List AV → List AV → List Cd → Option (List Cd)
  | [], [], acc => some acc
  | a :: l, b :: m, acc => match cmpA σ a b acc with
    | some acc1 => cmpL σ l m acc1
    | none => none
  | _, _, _ => none
end

mutual
theorem cmpA_sound {σ : Ren} {ρ : Env} : ∀ {a b : AV} {acc acc' : List Cd}, cmpA σ a b acc = some acc' → All acc' → All acc ∧ ∀ v, b.den ρ = some v → a.den (renE σ ρ) = some v
  | .lit v, b, acc, acc', h, hc => by
    cases b with
    | lit u =>
      simp only [cmpA] at h
      obtain ⟨h1, rfl⟩ := cmpV_sound h hc
      exact ⟨h1, fun v hv => by simpa [AV.den] using hv⟩
    | _ => simp [cmpA] at h
  | .ptr c e sz j, b, acc, acc', h, hc => by
    cases b with
    | ptr i e' sz' j' =>
      simp only [cmpA] at h
      split at h
      · rename_i i' hi
        split at h
        · rename_i hb
          simp only [Bool.and_eq_true] at hb
          cases Nat.eq_of_beq_eq_true hb.1.1
          cases Nat.eq_of_beq_eq_true hb.1.2
          cases Nat.eq_of_beq_eq_true hb.2
          cases h
          obtain ⟨rfl, hc⟩ := hc
          refine ⟨hc, fun v hv => ?_⟩
          simp only [AV.den, renE, hi] at hv ⊢
          exact hv
        · cases h
      · cases h
    | _ => simp [cmpA] at h
  | .sl c n, b, acc, acc', h, hc => by
    cases b with
    | sl i m =>
      simp only [cmpA] at h
      split at h
      · rename_i i' hi
        split at h
        · rename_i hb
          cases Nat.eq_of_beq_eq_true hb
          cases h
          obtain ⟨rfl, hc⟩ := hc
          refine ⟨hc, fun v hv => ?_⟩
          simp only [AV.den, renE, hi] at hv ⊢
          exact hv
        · cases h
      · cases h
    | lit u =>
      simp only [cmpA] at h
      split at h
      · rename_i hn
        cases isNil_eq hn
        split at h
        · rename_i hi
          cases h
          obtain ⟨rfl, hc⟩ := hc
          refine ⟨hc, fun v hv => ?_⟩
          simp only [AV.den, renE, hi, Option.some.injEq] at hv ⊢
          subst hv
          rfl
        · cases h
      · cases h
    | _ => simp [cmpA] at h
  | .agg l, b, acc, acc', h, hc => by
    cases b with
    | agg m =>
      simp only [cmpA] at h
      obtain ⟨h1, h2⟩ := cmpL_sound (ρ := ρ) h hc
      refine ⟨h1, fun v hv => ?_⟩
      simp only [AV.den, Option.map_eq_some_iff] at hv ⊢
      obtain ⟨vs, h3, rfl⟩ := hv
      exact ⟨vs, h2 vs h3, rfl⟩
    | lit u =>
      cases u with
      | agg cs =>
        simp only [cmpA] at h
        obtain ⟨h1, h2⟩ := cmpL_sound (ρ := ρ) h hc
        refine ⟨h1, fun v hv => ?_⟩
        simp only [AV.den, Option.some.injEq, Option.map_eq_some_iff] at hv ⊢
        subst hv
        exact ⟨cs.toList, h2 _ (denL_lits ρ cs.toList), by simp⟩
      | _ => simp [cmpA] at h
    | _ => simp [cmpA] at h
  | .tup l, b, acc, acc', h, hc => by
    cases b with
    | tup m =>
      simp only [cmpA] at h
      obtain ⟨h1, h2⟩ := cmpL_sound (ρ := ρ) h hc
      refine ⟨h1, fun v hv => ?_⟩
      simp only [AV.den, Option.map_eq_some_iff] at hv ⊢
      obtain ⟨vs, h3, rfl⟩ := hv
      exact ⟨vs, h2 vs h3, rfl⟩
    | _ => simp [cmpA] at h
  | .fn f x y, b, acc, acc', h, hc => by
    cases b with
    | fn g c d =>
      simp only [cmpA] at h
      split at h
      · rename_i hb
        cases Nat.eq_of_beq_eq_true hb
        split at h
        · rename_i acc1 h1
          obtain ⟨h2, h3⟩ := cmpL_sound (ρ := ρ) h hc
          obtain ⟨h4, h5⟩ := cmpL_sound (ρ := ρ) h1 h2
          refine ⟨h4, fun v hv => ?_⟩
          simp only [AV.den, Option.bind_eq_some_iff, Option.map_eq_some_iff] at hv ⊢
          obtain ⟨p, e1, q, e2, rfl⟩ := hv
          exact ⟨p, h5 p e1, q, h3 q e2, rfl⟩
        · cases h
      · cases h
    | _ => simp [cmpA] at h
  | .yld c, b, acc, acc', h, hc => by
    cases b with
    | yld i =>
      simp only [cmpA] at h
      split at h
      · rename_i i' hl
        split at h
        · rename_i hb
          cases Nat.eq_of_beq_eq_true hb
          cases h
          refine ⟨hc, fun v hv => ?_⟩
          simp only [AV.den, renE, hl] at hv ⊢
          exact hv
        · cases h
      · cases h
    | _ => simp [cmpA] at h
  | .mp c, b, acc, acc', h, hc => by
    cases b with
    | mp i =>
      simp only [cmpA] at h
      split at h
      · rename_i i' hl
        split at h
        · rename_i hb
          cases Nat.eq_of_beq_eq_true hb
          cases h
          refine ⟨hc, fun v hv => ?_⟩
          simp only [AV.den, renE, hl] at hv ⊢
          exact hv
        · cases h
      · cases h
    | _ => simp [cmpA] at h
  | .tb c x, b, acc, acc', h, hc => by
    cases x with
    | cell e k sz f => simp [cmpA] at h
    | row e n =>
      cases b with
      | tb i y =>
        cases y with
        | cell e k sz f => simp [cmpA] at h
        | row e' m =>
          simp only [cmpA] at h
          split at h
          · rename_i i' hl
            split at h
            · rename_i hb
              cases Nat.eq_of_beq_eq_true hb
              cases h
              obtain ⟨⟨rfl, rfl⟩, h2⟩ := hc
              refine ⟨h2, fun v hv => ?_⟩
              simp only [AV.den, renE, hl] at hv ⊢
              exact hv
            · cases h
          · cases h
      | _ => simp [cmpA] at h
  | .cnd b x, y, acc, acc', h, hc => by simp [cmpA] at h
theorem cmpL_sound {σ : Ren} {ρ : Env} : ∀ {l m : List AV} {acc acc' : List Cd}, cmpL σ l m acc = some acc' → All acc' → All acc ∧ ∀ vs, AV.denL ρ m = some vs → AV.denL (renE σ ρ) l = some vs
  | [], m, acc, acc', h, hc => by
    cases m with
    | nil => simp only [cmpL, Option.some.injEq] at h; subst h; exact ⟨hc, fun vs hv => by simpa [AV.denL] using hv⟩
    | cons b m => simp [cmpL] at h
  | a :: l, m, acc, acc', h, hc => by
    cases m with
    | nil => simp [cmpL] at h
    | cons b m =>
      simp only [cmpL] at h
      split at h
      · rename_i acc1 h1
        obtain ⟨h2, h3⟩ := cmpL_sound (ρ := ρ) h hc
        obtain ⟨h4, h5⟩ := cmpA_sound (ρ := ρ) h1 h2
        refine ⟨h4, fun vs hv => ?_⟩
        simp only [AV.denL] at hv ⊢
        obtain ⟨v, ws, e1, e2, rfl⟩ := listO_some hv
        rw [h5 v e1, h3 ws e2]; rfl
      · cases h
end

/-- Contents that say nothing of chunks. -/
def litC : Cont → Bool
  | .ints _ _ | .bools _ | .gen _ _ _ => true
  | .exp l => (litsOf l).isSome
  | .app c l => match litC c with | true => (litsOf l).isSome | false => false
  | .tbl .. => false
  | .jbs .. => false
theorem denL_split {ρ : Env} : ∀ {m : List AV} {l : List AV} {vs : List Value}, AV.denL ρ (m ++ l) = some vs → ∃ a b, AV.denL ρ m = some a ∧ AV.denL ρ l = some b ∧ vs = a ++ b
  | [], l, vs, h => ⟨[], vs, rfl, h, rfl⟩
  | x :: m, l, vs, h => by
    simp only [List.cons_append, AV.denL] at h
    obtain ⟨v, ws, h1, h2, rfl⟩ := listO_some h
    obtain ⟨a, b, h3, h4, rfl⟩ := denL_split h2
    exact ⟨v :: a, b, by simp only [AV.denL, h1, h3]; rfl, h4, rfl⟩
theorem litC_den : ∀ {c : Cont}, litC c = true → ∃ vs : List Value, c.cells = vs.map AV.lit
  | .ints k l, _ => ⟨l.map (Value.int k), by simp [Cont.cells]⟩
  | .bools l, _ => ⟨l.map Value.bool, by simp [Cont.cells]⟩
  | .gen n sz get, _ => ⟨(List.range (n * sz)).map fun q => (get (q / sz)).getD (q % sz) undef, by simp [Cont.cells]⟩
  | .exp l, h => by
    obtain ⟨vs, hv⟩ := Option.isSome_iff_exists.1 h
    exact ⟨vs, litsOf_eq hv⟩
  | .app c l, h => by
    simp only [litC] at h
    split at h
    · rename_i h1
      obtain ⟨us, hu⟩ := litC_den h1
      obtain ⟨vs, hv⟩ := Option.isSome_iff_exists.1 h
      exact ⟨us ++ vs, by simp [Cont.cells, hu, litsOf_eq hv]⟩
    · cases h

theorem ints_den (ρ : Env) (k : IntKind) (l : List Int) : AV.denL ρ (Cont.ints k l).cells = some (l.map (Value.int k)) := by
  have ee : (Cont.ints k l).cells = (l.map (Value.int k)).map AV.lit := by simp [Cont.cells]
  rw [ee, denL_lits]
theorem bools_den (ρ : Env) (l : List Bool) : AV.denL ρ (Cont.bools l).cells = some (l.map Value.bool) := by
  have ee : (Cont.bools l).cells = (l.map Value.bool).map AV.lit := by simp [Cont.cells]
  rw [ee, denL_lits]
def cmpC (σ : Ren) (c d : Cont) (acc : List Cd) : Option (List Cd) :=
  match c, d with
  | .ints k xs, .ints k' ys => match kEq k k' with | true => some (cd (xs = ys) :: acc) | false => none
  | .bools xs, .bools ys => some (cd (xs = ys) :: acc)
  | .exp l, .exp m => cmpL σ l m acc
  | .tbl j n len none, .tbl j' n' len' none => match look j σ with
    | some (some i) => match Nat.beq i j' with
      | true => some (cp (n = n' ∧ ∀ q, q < n → len q = len' q) :: acc)
      | false => none
    | _ => none
  | .jbs j n sz hd len, .jbs j' n' sz' hd' len' => match look j σ with
    | some (some i) => match Nat.beq i j' && Nat.beq sz sz' with
      | true => some (cp (n = n' ∧ ∀ q, q < n → len q = len' q ∧ hd q = hd' q) :: acc)
      | false => none
    | _ => none
  | c, d => match litC c with | true => some (cp (c.cells = d.cells) :: acc) | false => none
theorem cmpC_sound {σ : Ren} {ρ : Env} {c d : Cont} {acc acc' : List Cd} (h : cmpC σ c d acc = some acc') (hc : All acc') : All acc ∧ ∀ vs, AV.denL ρ d.cells = some vs → AV.denL (renE σ ρ) c.cells = some vs := by
  unfold cmpC at h
  split at h
  · split at h
    · rename_i hk
      cases kEq_eq hk
      cases h
      obtain ⟨rfl, hc⟩ := hc
      refine ⟨hc, fun vs hv => ?_⟩
      rw [ints_den] at hv ⊢
      exact hv
    · cases h
  · cases h
    obtain ⟨rfl, hc⟩ := hc
    refine ⟨hc, fun vs hv => ?_⟩
    rw [bools_den] at hv ⊢
    exact hv
  · exact cmpL_sound h hc
  · rename_i j n len j' n' len'
    split at h
    · rename_i i hl
      split at h
      · rename_i hb
        cases Nat.eq_of_beq_eq_true hb
        cases h
        obtain ⟨⟨rfl, h1⟩, h2⟩ := hc
        refine ⟨h2, fun vs hv => ?_⟩
        simp only [Cont.cells] at hv ⊢
        have key : ∀ (l : List Nat) (vs : List Value), (∀ q ∈ l, len q = len' q) → AV.denL ρ (l.map (tblC j' len' none)) = some vs → AV.denL (renE σ ρ) (l.map (tblC j len none)) = some vs := by
          intro l
          induction l with
          | nil => intro vs _ h; simpa [AV.denL] using h
          | cons q l ih =>
            intro vs hq h
            simp only [List.map_cons, AV.denL] at h ⊢
            obtain ⟨u, us, h3, h4, rfl⟩ := listO_some h
            rw [ih us (fun q hm => hq q (List.mem_cons_of_mem _ hm)) h4]
            have : AV.den (renE σ ρ) (tblC j len none q) = some u := by
              simp only [tblC, AV.den, renE, hl] at h3 ⊢
              rw [hq q List.mem_cons_self]
              exact h3
            rw [this]
            rfl
        exact key _ _ (fun q hq => h1 q (List.mem_range.1 hq)) hv
      · cases h
    · cases h
  · rename_i j n sz hd len j' n' sz' hd' len'
    split at h
    · rename_i i hl
      split at h
      · rename_i hb
        simp only [Bool.and_eq_true] at hb
        cases Nat.eq_of_beq_eq_true hb.1
        cases Nat.eq_of_beq_eq_true hb.2
        cases h
        obtain ⟨⟨rfl, h1⟩, h2⟩ := hc
        refine ⟨h2, fun vs hv => ?_⟩
        simp only [Cont.cells] at hv ⊢
        have key : ∀ (l : List Nat) (vs : List Value), (∀ q ∈ l, len (q / sz) = len' (q / sz) ∧ hd (q / sz) = hd' (q / sz)) → AV.denL ρ (l.map (jbsC j' sz hd' len')) = some vs → AV.denL (renE σ ρ) (l.map (jbsC j sz hd len)) = some vs := by
          intro l
          induction l with
          | nil => intro vs _ h; simpa [AV.denL] using h
          | cons q l ih =>
            intro vs hq h
            simp only [List.map_cons, AV.denL] at h ⊢
            obtain ⟨u, us, h3, h4, rfl⟩ := listO_some h
            rw [ih us (fun q hm => hq q (List.mem_cons_of_mem _ hm)) h4]
            obtain ⟨g1, g2⟩ := hq q List.mem_cons_self
            have : AV.den (renE σ ρ) (jbsC j sz hd len q) = some u := by
              unfold jbsC at h3 ⊢
              rw [g1, g2]
              split
              · rename_i c
                rw [if_pos c] at h3
                simp only [AV.den, renE, hl] at h3 ⊢
                exact h3
              · rename_i c
                rw [if_neg c] at h3
                simpa only [AV.den] using h3
            rw [this]
            rfl
        refine key _ _ (fun q hq => h1 _ ?_) hv
        have hq := List.mem_range.1 hq
        rw [Nat.mul_comm] at hq
        exact Nat.div_lt_of_lt_mul hq
      · cases h
    · cases h
  · split at h
    · rename_i hl
      cases h
      obtain ⟨us, hu⟩ := litC_den hl
      refine ⟨hc.2, fun vs hv => ?_⟩
      rw [← hc.1, hu, denL_lits] at hv
      rw [hu, denL_lits]
      exact hv
    · cases h

def cmpT (σ : Ren) (T : List (Nat × AV)) : List (Nat × AV) → List Cd → Option (List Cd)
  | [], acc => some acc
  | (k, a) :: l, acc => match look k T with
    | some b => match cmpA σ a b acc with
      | some acc1 => cmpT σ T l acc1
      | none => none
    | none => none
theorem cmpT_sound {σ : Ren} {ρ : Env} {T : List (Nat × AV)} : ∀ {l : List (Nat × AV)} {acc acc' : List Cd}, cmpT σ T l acc = some acc' → All acc' → All acc ∧ ∀ k a, (k, a) ∈ l → ∃ b, look k T = some b ∧ ∀ v, b.den ρ = some v → a.den (renE σ ρ) = some v
  | [], acc, acc', h, hc => by cases h; exact ⟨hc, fun k a hm => by cases hm⟩
  | (k, a) :: l, acc, acc', h, hc => by
    simp only [cmpT] at h
    split at h
    · rename_i b hb
      split at h
      · rename_i acc1 h1
        obtain ⟨h2, h3⟩ := cmpT_sound (ρ := ρ) h hc
        obtain ⟨h4, h5⟩ := cmpA_sound (ρ := ρ) h1 h2
        refine ⟨h4, fun k' a' hm => ?_⟩
        rcases List.mem_cons.1 hm with e | hm
        · cases e; exact ⟨b, hb, h5⟩
        · exact h3 k' a' hm
      · cases h
    · cases h

def cmpE (σ : Ren) : List (Value × AV) → List (Value × AV) → List Cd → Option (List Cd)
  | [], [], acc => some acc
  | (k, a) :: l, (k', b) :: m, acc => match cmpV k k' acc with
    | some acc1 => match cmpA σ a b acc1 with
      | some acc2 => cmpE σ l m acc2
      | none => none
    | none => none
  | _, _, _ => none
theorem cmpE_sound {σ : Ren} {ρ : Env} : ∀ {l m : List (Value × AV)} {acc acc' : List Cd}, cmpE σ l m acc = some acc' → All acc' → All acc ∧ l.length = m.length ∧ ∀ n es, Ents ρ n m es → Ents (renE σ ρ) n l es
  | [], [], acc, acc', h, hc => by cases h; exact ⟨hc, rfl, fun n es e => e⟩
  | [], _ :: _, acc, acc', h, hc => by cases h
  | (_, _) :: _, [], acc, acc', h, hc => by cases h
  | (k, a) :: l, (k', b) :: m, acc, acc', h, hc => by
    simp only [cmpE] at h
    split at h
    · rename_i acc1 h1
      split at h
      · rename_i acc2 h2
        obtain ⟨h3, h4, h5⟩ := cmpE_sound (ρ := ρ) h hc
        obtain ⟨h6, h7⟩ := cmpA_sound (ρ := ρ) h2 h3
        obtain ⟨h8, rfl⟩ := cmpV_sound h1 h6
        exact ⟨h8, by simp [h4], fun n es ⟨v, m', e1, e2, e3⟩ => ⟨v, m', h7 v e1, e2, h5 _ _ e3⟩⟩
      · cases h
    · cases h
def cmpO (σ : Ren) (c d : ObjK) (acc : List Cd) : Option (List Cd) :=
  match c, d with
  | .map l, .map m => cmpE σ l m acc
  | .set l, .set m => some (cd (l = m) :: acc)
  | .iset l, .iset m => some (cd (l = m) :: acc)
  | .ix l, .ix m => some (cd (l = m) :: acc)
  | .sit s p, .sit s' p' => some (cd (s = s' ∧ p = p') :: acc)
  | .rcd T nt ps a b st, .rcd T' nt' ps' a' b' st' => cmpT σ T' T (cp (nt = nt' ∧ ps = ps' ∧ a = a' ∧ b = b' ∧ st = st') :: acc)
  | _, _ => none
theorem cmpO_sound {σ : Ren} {ρ : Env} {c d : ObjK} {acc acc' : List Cd} (h : cmpO σ c d acc = some acc') (hc : All acc') : All acc ∧ ∀ o, d.is ρ o → c.is (renE σ ρ) o := by
  unfold cmpO at h
  split at h
  · obtain ⟨h1, h2, h3⟩ := cmpE_sound (ρ := ρ) h hc
    exact ⟨h1, fun o ⟨m, e1, e2⟩ => ⟨m, h3 _ _ e1, by rw [e2, h2]⟩⟩
  · cases h
    obtain ⟨rfl, h1⟩ := hc
    exact ⟨h1, fun o e => e⟩
  · cases h
    obtain ⟨rfl, h1⟩ := hc
    exact ⟨h1, fun o e => e⟩
  · cases h
    obtain ⟨rfl, h1⟩ := hc
    exact ⟨h1, fun o e => e⟩
  · cases h
    obtain ⟨⟨rfl, rfl⟩, h1⟩ := hc
    exact ⟨h1, fun o e => e⟩
  · obtain ⟨⟨⟨rfl, rfl, rfl, rfl, rfl⟩, h1⟩, h2⟩ := cmpT_sound (ρ := ρ) h hc
    refine ⟨h1, fun o ⟨f, tmps, df, e1, e2, e3⟩ => ⟨f, tmps, df, e1, fun k av e => ?_, e3⟩⟩
    obtain ⟨b, f1, f2⟩ := h2 k av (look_mem e)
    obtain ⟨v, f3, f4⟩ := e2 k b f1
    exact ⟨v, f2 v f3, f4⟩
  · cases h

/-- The first chunk, in the other numbers, is served by the second one. -/
def cmpK (σ : Ren) (c d : Chunk) (acc : List Cd) : Option (List Cd) :=
  match c, d with
  | .ro n sz c, .ro m sz' d | .ro n sz c, .row _ m sz' d => match Nat.beq sz sz' && Nat.blt 0 sz with
    | true => cmpC σ c d (cd (n = m) :: acc)
    | false => none
  | .row t n sz c, .row t' m sz' d => match Nat.beq sz sz' && Nat.beq t t' with
    | true => cmpC σ c d (cd (n = m) :: acc)
    | false => none
  | .blk t l, .blk t' m | .rb t l, .blk t' m | .rb t l, .rb t' m => match Nat.beq t t' with
    | true => cmpL σ l m acc
    | false => none
  | .obj k, .obj k' => cmpO σ k k' acc
  | .fam o t sz n len c, .fam o' t' sz' n' len' c' => match (match o with | true => o' | false => true) && Nat.beq t t' && Nat.beq sz sz' with
    | true => some (cp (n = n' ∧ ∀ e, e < n → len e = len' e ∧ (c e).cells = (c' e).cells) :: acc)
    | false => none
  | _, _ => none

theorem renE_some {σ : Ren} {ρ : Env} {c i : Nat} (h : look c σ = some (some i)) : renE σ ρ c = ρ i := by simp [renE, h]
theorem renE_nil {σ : Ren} {ρ : Env} {c : Nat} (h : look c σ = some none) : renE σ ρ c = some ⟨none, 0⟩ := by simp [renE, h]

theorem cmpK_sound {σ : Ren} {ρ : Env} {w : World} {c d : Chunk} {k i : Nat} {acc acc' : List Cd} (h : cmpK σ c d acc = some acc') (hc : All acc') (hi : look k σ = some (some i)) (hd : d.holds ρ i w) :
    All acc ∧ c.holds (renE σ ρ) k w ∧ (∀ g, c.occ (renE σ ρ) k g → d.occ ρ i g) ∧ (c.own = true → d.own = true) := by
  have hρ : renE σ ρ k = ρ i := renE_some hi
  unfold cmpK at h
  split at h
  · rename_i n sz c m sz' d
    split at h
    · rename_i hs
      simp only [Bool.and_eq_true] at hs
      cases Nat.eq_of_beq_eq_true hs.1
      obtain ⟨⟨rfl, h1⟩, h2⟩ := cmpC_sound (ρ := ρ) h hc
      obtain ⟨L, vs, e1, e2, e3, e4, e5, e6⟩ := hd
      refine ⟨h1, ⟨L, vs, by rw [hρ]; exact e1, h2 vs e2, e3, e4, e5, e6⟩, fun g hg => ?_, fun h => by cases h⟩
      simp only [Chunk.occ, hρ] at hg ⊢
      exact hg
    · cases h
  · rename_i n sz c t m sz' d
    split at h
    · rename_i hs
      simp only [Bool.and_eq_true] at hs
      cases Nat.eq_of_beq_eq_true hs.1
      have hsz : 0 < sz := Nat.le_of_ble_eq_true hs.2
      obtain ⟨⟨rfl, h1⟩, h2⟩ := cmpC_sound (ρ := ρ) h hc
      obtain ⟨L, vs, e1, e2, e3⟩ := hd
      refine ⟨h1, ⟨L, vs, by rw [hρ]; exact e1, h2 vs e2, e3.1, ?_, ?_, fun h0 => ?_⟩, fun g hg => ?_, fun h => by cases h⟩
      · rcases e3.2 with ⟨f1, rfl⟩ | ⟨g, cap, cur, f1, _, _, f2, _⟩
        · exact Nat.zero_le _
        · injection f1 with f3 f4 f5; rw [f5]; exact f2
      · rcases e3.2 with ⟨f1, rfl⟩ | ⟨g, cap, cur, f1, _, _, _, f2, _⟩
        · injection f1 with f3 f4 f5; rw [f5]; exact Nat.zero_le _
        · injection f1 with f3 f4 f5; rw [f5, capOk_pos hsz]; exact f2
      · rcases e3.2 with ⟨f1, rfl⟩ | ⟨g, cap, cur, f1, f2⟩
        · simp at h0
        · injection f1 with f3 f4 f5
          exact ⟨_, f3, e3.cells (g := g) (by rw [f3]; rfl)⟩
      · simp only [Chunk.occ, hρ] at hg ⊢
        exact hg.2
    · cases h
  · rename_i t n sz c t' m sz' d
    split at h
    · rename_i hs
      simp only [Bool.and_eq_true] at hs
      cases Nat.eq_of_beq_eq_true hs.1
      cases Nat.eq_of_beq_eq_true hs.2
      obtain ⟨⟨rfl, h1⟩, h2⟩ := cmpC_sound (ρ := ρ) h hc
      obtain ⟨L, vs, e1, e2, e3⟩ := hd
      refine ⟨h1, ⟨L, vs, by rw [hρ]; exact e1, h2 vs e2, e3⟩, fun g hg => ?_, fun _ => rfl⟩
      simp only [Chunk.occ, hρ] at hg ⊢
      exact hg
    · cases h
  · rename_i t l t' m
    split at h
    · rename_i hs
      cases Nat.eq_of_beq_eq_true hs
      obtain ⟨h1, h2⟩ := cmpL_sound (ρ := ρ) h hc
      obtain ⟨g, cap, vs, e1, e2, e3⟩ := hd
      refine ⟨h1, ⟨g, cap, vs, by rw [hρ]; exact e1, h2 vs e2, e3⟩, fun g hg => ?_, fun _ => rfl⟩
      simp only [Chunk.occ, hρ] at hg ⊢
      exact hg
    · cases h
  · rename_i t l t' m
    split at h
    · rename_i hs
      cases Nat.eq_of_beq_eq_true hs
      obtain ⟨h1, h2⟩ := cmpL_sound (ρ := ρ) h hc
      obtain ⟨g, cap, vs, e1, e2, e3⟩ := hd
      refine ⟨h1, ⟨g, cap, vs, by rw [hρ]; exact e1, h2 vs e2, _, _, e3⟩, fun g hg => ?_, fun h => by cases h⟩
      simp only [Chunk.occ, hρ] at hg ⊢
      exact hg
    · cases h
  · rename_i t l t' m
    split at h
    · rename_i hs
      cases Nat.eq_of_beq_eq_true hs
      obtain ⟨h1, h2⟩ := cmpL_sound (ρ := ρ) h hc
      obtain ⟨g, cap, vs, e1, e2, e3⟩ := hd
      refine ⟨h1, ⟨g, cap, vs, by rw [hρ]; exact e1, h2 vs e2, e3⟩, fun g hg => ?_, fun h => by cases h⟩
      simp only [Chunk.occ, hρ] at hg ⊢
      exact hg
    · cases h
  · obtain ⟨h1, h2⟩ := cmpO_sound (ρ := ρ) h hc
    obtain ⟨g, cap, o, e1, e2, e3⟩ := hd
    refine ⟨h1, ⟨g, cap, o, by rw [hρ]; exact e1, h2 o e2, e3⟩, fun g hg => ?_, fun _ => rfl⟩
    simp only [Chunk.occ, hρ] at hg ⊢
    exact hg
  · rename_i o t sz n len c o' t' sz' n' len' c'
    split at h
    · rename_i hb
      simp only [Bool.and_eq_true] at hb
      cases Nat.eq_of_beq_eq_true hb.1.2
      cases Nat.eq_of_beq_eq_true hb.2
      have ho : o = true → o' = true := fun e => by subst e; exact hb.1.1
      cases h
      obtain ⟨⟨rfl, h1⟩, h2⟩ := hc
      obtain ⟨L, e1, f1, f2, f3, f4⟩ := hd
      have hlt : ∀ {e : Nat} {r : Option Addr × Nat}, (locs L.cap)[e]? = some r → e < n := fun {e r} h => by rw [← f2]; exact (List.getElem?_eq_some_iff.1 h).1
      refine ⟨h2, ⟨L, by rw [hρ]; exact e1, f1, f2, fun e r er => ?_, fun h e e' r r' a a' er er' ha ha' hne p p' => f4 (ho h) e e' r r' a a' er er' ha ha' hne (by rw [← (h1 e (hlt er)).1]; exact p) (by rw [← (h1 e' (hlt er')).1]; exact p')⟩, fun g hg => ?_, ho⟩
      · obtain ⟨vs, g1, g2, g3, g4, g5, g6⟩ := f3 e r er
        obtain ⟨k1, k2⟩ := h1 e (hlt er)
        rw [k1, ]
        exact ⟨vs, fun ρ' => by rw [k2]; exact g1 ρ', g2, g3, g4, g5, fun h => g6 (ho h)⟩
      · obtain ⟨L', e2, e, r, a, q1, q2, q3, q4⟩ := hg
        rw [hρ, e1] at e2
        cases e2
        refine ⟨L, e1, e, r, a, q1, q2, q3, ?_⟩
        rw [← (h1 e (hlt q1)).1]
        exact q4
    · cases h
  · cases h

/-- .. and by a nil slice. -/
def cmpNil (c : Chunk) (acc : List Cd) : Option (List Cd) :=
  match c with
  | .ro n _ c | .row _ n _ c => some (cp (n = 0 ∧ c.cells = []) :: acc)
  | _ => none
theorem cmpNil_sound {ρ : Env} {w : World} {c : Chunk} {k : Nat} {acc acc' : List Cd} (h : cmpNil c acc = some acc') (hc : All acc') (hk : ρ k = some ⟨none, 0⟩) : All acc ∧ c.holds ρ k w ∧ ∀ g, ¬ c.occ ρ k g := by
  cases c with
  | blk t l => cases h
  | rb t l => cases h
  | obj k => cases h
  | fam => cases h
  | row t n sz c =>
    cases h
    obtain ⟨⟨rfl, h1⟩, h2⟩ := hc
    refine ⟨h2, ⟨_, [], hk, by rw [h1]; rfl, World.ownsRow_nil w 0 t sz⟩, ?_⟩
    rintro g ⟨L, a, e1, e2, _⟩
    rw [hk] at e1; cases e1; cases e2
  | ro n sz c =>
    cases h
    obtain ⟨⟨rfl, h1⟩, h2⟩ := hc
    refine ⟨h2, ⟨_, [], hk, by rw [h1]; rfl, by simp, Nat.zero_le _, Nat.zero_le _, fun h => by simp at h⟩, ?_⟩
    rintro g ⟨h0, _⟩
    simp at h0

/-- A heap in the other numbers is served by the one at hand. -/
def cmpH (σ : Ren) (H : List (Nat × Chunk)) : List (Nat × Chunk) → List Cd → Option (List Cd)
  | [], acc => some acc
  | (k, c) :: l, acc => match look k σ with
    | some (some i) => match look i H with
      | some d => match cmpK σ c d acc with
        | some acc1 => cmpH σ H l acc1
        | none => none
      | none => none
    | some none => match cmpNil c acc with
      | some acc1 => cmpH σ H l acc1
      | none => none
    | none => none
/-- What is owned alone is meant alone. -/
def lone1 (σ : Ren) (k i : Nat) : List (Nat × Chunk) → Bool
  | [] => true
  | (j, _) :: l => match Nat.beq j k with
    | true => lone1 σ k i l
    | false => match look j σ with
      | some (some i') => match Nat.beq i i' with | true => false | false => lone1 σ k i l
      | _ => lone1 σ k i l
def loneH (σ : Ren) (h0 : List (Nat × Chunk)) : List (Nat × Chunk) → Bool
  | [] => true
  | (k, c) :: l => match c.own, look k σ with
    | true, some (some i) => match lone1 σ k i h0 with | true => loneH σ h0 l | false => false
    | _, _ => loneH σ h0 l

theorem lone1_sound {σ : Ren} {k i : Nat} : ∀ {l : List (Nat × Chunk)}, lone1 σ k i l = true → ∀ j c, (j, c) ∈ l → j ≠ k → look j σ ≠ some (some i)
  | [], _, j, c, hm, _ => by cases hm
  | (j', c') :: l, h, j, c, hm, hne => by
    simp only [lone1] at h
    rcases List.mem_cons.1 hm with e | hm
    · cases e
      split at h
      · rename_i hb; exact absurd (Nat.eq_of_beq_eq_true hb) hne
      · split at h
        · rename_i i' hl
          split at h
          · cases h
          · rename_i hb
            rw [hl]
            intro e; cases e
            simp at hb
        · rename_i h2
          intro e; exact h2 i e
    · split at h
      · exact lone1_sound h j c hm hne
      · split at h
        · split at h
          · cases h
          · exact lone1_sound h j c hm hne
        · exact lone1_sound h j c hm hne
theorem loneH_sound {σ : Ren} {h0 : List (Nat × Chunk)} : ∀ {l : List (Nat × Chunk)}, loneH σ h0 l = true → ∀ k c i, (k, c) ∈ l → c.own = true → look k σ = some (some i) → ∀ j d, (j, d) ∈ h0 → j ≠ k → look j σ ≠ some (some i)
  | [], _, k, c, i, hm, _, _ => by cases hm
  | (k', c') :: l, h, k, c, i, hm, ho, hi => by
    simp only [loneH] at h
    rcases List.mem_cons.1 hm with e | hm
    · cases e
      rw [ho, hi] at h
      simp only at h
      split at h
      · rename_i h1; exact lone1_sound h1
      · cases h
    · have : loneH σ h0 l = true := by
        split at h
        · split at h
          · exact h
          · cases h
        · exact h
      exact loneH_sound this k c i hm ho hi

theorem cmpH_all {σ : Ren} {H : List (Nat × Chunk)} {ρ : Env} {w : World} {HD : HMap} (hh : Heap ρ HD w) (hsub : ∀ i d, look i H = some d → HD i = some d) : ∀ {l : List (Nat × Chunk)} {acc acc' : List Cd}, cmpH σ H l acc = some acc' → All acc' →
    All acc ∧ ∀ k c, (k, c) ∈ l → c.holds (renE σ ρ) k w ∧ ((∃ i d, look k σ = some (some i) ∧ look i H = some d ∧ (∀ g, c.occ (renE σ ρ) k g → d.occ ρ i g) ∧ (c.own = true → d.own = true)) ∨ ((∀ g, ¬ c.occ (renE σ ρ) k g) ∧ look k σ = some none))
  | [], acc, acc', h, hc => by cases h; exact ⟨hc, fun k c hm => by cases hm⟩
  | (k, c) :: l, acc, acc', h, hc => by
    simp only [cmpH] at h
    split at h
    · rename_i i hi
      split at h
      · rename_i d hd
        split at h
        · rename_i acc1 h1
          obtain ⟨h2, h3⟩ := cmpH_all hh hsub h hc
          obtain ⟨h4, h5, h6, h7⟩ := cmpK_sound h1 h2 hi (hh.holds i d (hsub i d hd))
          refine ⟨h4, fun k' c' hm => ?_⟩
          rcases List.mem_cons.1 hm with e | hm
          · cases e
            exact ⟨h5, .inl ⟨i, d, hi, hd, h6, h7⟩⟩
          · exact h3 k' c' hm
        · cases h
      · cases h
    · rename_i hi
      split at h
      · rename_i acc1 h1
        obtain ⟨h2, h3⟩ := cmpH_all hh hsub h hc
        obtain ⟨h4, h5, h6⟩ := cmpNil_sound (w := w) h1 h2 (renE_nil (ρ := ρ) hi)
        refine ⟨h4, fun k' c' hm => ?_⟩
        rcases List.mem_cons.1 hm with e | hm
        · cases e
          exact ⟨h5, .inr ⟨h6, hi⟩⟩
        · exact h3 k' c' hm
      · cases h
    · cases h

theorem cmpH_sound {σ : Ren} {H h0 : List (Nat × Chunk)} {ρ : Env} {w : World} {HD : HMap} (hh : Heap ρ HD w) (hsub : ∀ i d, look i H = some d → HD i = some d) {acc acc' : List Cd} (h : cmpH σ H h0 acc = some acc') (hc : All acc') (hl : loneH σ h0 h0 = true) :
    All acc ∧ Heap (renE σ ρ) (fun k => look k h0) w ∧ ∀ g, Owned (renE σ ρ) (fun k => look k h0) g → ∃ k c i d, look k h0 = some c ∧ c.own = true ∧ look k σ = some (some i) ∧ look i H = some d ∧ d.own = true ∧ d.occ ρ i g := by
  obtain ⟨h1, h2⟩ := cmpH_all hh hsub h hc
  refine ⟨h1, ⟨fun k c e => (h2 k c (look_mem e)).1, fun k c e ho k' c' e' hne g hg hg' => ?_⟩, ?_⟩
  · obtain ⟨_, h3 | ⟨h3, _⟩⟩ := h2 k c (look_mem e)
    · obtain ⟨_, h4 | ⟨h4, _⟩⟩ := h2 k' c' (look_mem e')
      · obtain ⟨i, d, f1, f2, f3, f4⟩ := h3
        obtain ⟨i', d', g1, g2, g3, g4⟩ := h4
        refine hh.apart i d (hsub i d f2) (f4 ho) i' d' (hsub i' d' g2) ?_ g (f3 g hg) (g3 g hg')
        rintro rfl
        exact loneH_sound hl k c i' (look_mem e) ho f1 k' c' (look_mem e') hne g1
      · exact h4 g hg'
    · exact h3 g hg
  · rintro g ⟨k, c, e, ho, hg⟩
    obtain ⟨_, h3 | ⟨h3, _⟩⟩ := h2 k c (look_mem e)
    · obtain ⟨i, d, f1, f2, f3, f4⟩ := h3
      exact ⟨k, c, i, d, e, ho, f1, f2, f4 ho, f3 g hg⟩
    · exact absurd hg (h3 g)

end Go.Sym

namespace Go.Sym
open Go.RowKit

/-- The fence of a function's code (none), and of a round of a range over a function. -/
def fen (rd : Option Nat) : Fence := { fn := fun _ => True, depth := none, alive := false, round := rd }
theorem fen_none : fen none = Fence.wide := rfl
section
variable {P : Program} {rd : Option Nat} {o : Oper} {a : Act} {w : World} {K : Act → World → Prop} {Q : Exit → Act → World → Prop} {ops : Array Oper} {i : Nat}
theorem wpIn_ok {v : Value} {w' : World} {nxt : Next} (hd : ∀ c, o.op ≠ .defer c) (h : (execOp a.eval o).run P w = .ok nxt w') (hn : nxt = .value v ∨ (nxt = .skip ∧ v = undef)) (hK : K (a.put o.dst v) w') : o.wpIn (fen rd) 2 P a w K Q := by
  refine ⟨fun _ _ => trivial, ?_⟩
  rw [Oper.semAt_eq _ _ _ hd, h]
  rcases hn with rfl | ⟨rfl, rfl⟩
  · exact hK
  · exact hK
theorem wpIn_call {f : FuncId} {args : Array Value} {w' : World} (hd : ∀ c, o.op ≠ .defer c) (h : (execOp a.eval o).run P w = .ok (.enter f args) w')
    (hK : Calls P f args w' fun
      | .returned v, w'' => K (a.put o.dst v) w''
      | .panicked _, _ => False
      | .outgrown, _ => False) : o.wpIn (fen rd) 2 P a w K Q := by
  refine ⟨fun _ _ => trivial, ?_⟩
  rw [Oper.semAt_eq _ _ _ hd, h, Oper.uponIn_enter]
  refine And.intro (fun h => by cases h) ?_
  have h2 : CallsIn Fence.wide (2 - 1) P f args w' _ := callsIn_wide.2 hK
  have h3 : CallsIn (fen rd) (2 - 1) P f args w' _ := h2
  refine h3.mono ?_
  rintro e w'' he
  cases e with
  | returned v => exact he
  | panicked c => exact he.elim
  | outgrown => exact he.elim
theorem wpOpIn_on (ho : ops[i]? = some o) (hw : Region.wanted o (yielded ops a.tmps) = true) (h : o.wpIn (fen rd) 2 P a w K Q) : wpOpIn (fen rd) 2 P ops Q i K a w := by
  unfold Go.wpOpIn
  simp only [ho, hw, if_true]
  exact h
theorem wpOpIn_off (ho : ops[i]? = some o) (hw : Region.wanted o (yielded ops a.tmps) = false) (h : K (a.put o.dst undef) w) : wpOpIn (fen rd) 2 P ops Q i K a w := by
  unfold Go.wpOpIn
  simp only [ho, hw, Bool.false_eq_true, if_false]
  exact ⟨fun _ _ => trivial, h⟩
end

def callable (fn : Func) : Bool := !(fn.name == "runtime.NumGoroutine") && fn.body.isSome

/-- What a call leaves. -/
def CallPost (hin hout : List (Nat × Chunk)) (ret : AV) (ρ : Env) (w : World) (e : Ending) (w' : World) : Prop :=
  ∃ ρ' v, e = .returned v ∧ ret.den ρ' = some v ∧ Env.le ρ ρ' ∧ Heap ρ' (fun k => look k hout) w' ∧ (∀ g, Seen ρ' (fun k => look k hout) g → w.heap.size ≤ g ∨ Owned ρ (fun k => look k hin) g) ∧ Touch (Owned ρ fun k => look k hin) w w'

/-- A contract: chunks and arguments before, chunks and result after. -/
def FnSpec (P : Program) (f : FuncId) (gl : List (Nat × Nat)) (hin : List (Nat × Chunk)) (args : List AV) (hout : List (Nat × Chunk)) (ret : AV) : Prop :=
  (∃ fn, P.funcs[f]? = some fn ∧ callable fn = true) ∧
  ∀ (ρ : Env) (w : World) (vs : List Value), (∀ i L, ρ i = some L → (look i hin).isSome = true) → (∀ g i, (g, i) ∈ gl → ∃ c, ρ i = some ⟨some ⟨g, 0, none⟩, c⟩) → Heap ρ (fun k => look k hin) w → AV.denL ρ args = some vs → Calls P f vs.toArray w (CallPost hin hout ret ρ w)

structure Inst where
  f : FuncId
  gl : List (Nat × Nat) := []
  hin : List (Nat × Chunk)
  args : List AV
  hout : List (Nat × Chunk)
  ret : AV
  σ : Ren
def Inst.ok (P : Program) (I : Inst) : Prop := FnSpec P I.f I.gl I.hin I.args I.hout I.ret

theorem callFunc_run {P : Program} {w : World} {f : FuncId} {fn : Func} (h : P.funcs[f]? = some fn) (hc : callable fn = true) (args : Array Value) : (callFunc f args).run P w = .ok (.enter f args) w := by
  simp only [callable, Bool.and_eq_true, Bool.not_eq_true'] at hc
  have h3 : ¬ fn.name = "runtime.NumGoroutine" := by simpa using hc.1
  have h4 : fn.body ≠ none := by intro e; rw [e] at hc; simp at hc
  simp [callFunc, program, Sem.run, h, h3, h4]

mutual
def renA (τ : List (Nat × Nat)) : AV → Option AV
  | .lit v => some (.lit v)
  | .ptr c e sz j => match look c τ with | some i => some (.ptr i e sz j) | none => none
  | .sl c n => match look c τ with | some i => some (.sl i n) | none => none
  | .agg l => match renL τ l with | some m => some (.agg m) | none => none
  | .tup l => match renL τ l with | some m => some (.tup m) | none => none
  | .fn f a b => match renL τ a with
    | some x => match renL τ b with | some y => some (.fn f x y) | none => none
    | none => none
  | .yld c => match look c τ with | some i => some (.yld i) | none => none
  | .mp c => match look c τ with | some i => some (.mp i) | none => none
  | .tb c x => match look c τ with | some i => some (.tb i x) | none => none
  | .cnd _ _ => none
def renL (τ : List (Nat × Nat)) : List AV → Option (List AV)
  | [] => some []
  | a :: l => match renA τ a with
    | some b => match renL τ l with | some m => some (b :: m) | none => none
    | none => none
end

def RenOk (τ : List (Nat × Nat)) (ρ ρ' : Env) : Prop := ∀ c i L, look c τ = some i → ρ c = some L → ρ' i = some L

mutual
theorem renA_den {τ : List (Nat × Nat)} {ρ ρ' : Env} (h : RenOk τ ρ ρ') : ∀ {a b : AV} {v : Value}, renA τ a = some b → a.den ρ = some v → b.den ρ' = some v
  | .lit u, b, v, hr, hd => by simp only [renA, Option.some.injEq] at hr; subst hr; simpa [AV.den] using hd
  | .ptr c e sz j, b, v, hr, hd => by
    simp only [renA] at hr
    split at hr
    · rename_i i hi
      cases hr
      simp only [AV.den, Option.bind_eq_some_iff] at hd ⊢
      obtain ⟨L, h1, h2⟩ := hd
      exact ⟨L, h c i L hi h1, h2⟩
    · cases hr
  | .sl c n, b, v, hr, hd => by
    simp only [renA] at hr
    split at hr
    · rename_i i hi
      cases hr
      simp only [AV.den, Option.map_eq_some_iff] at hd ⊢
      obtain ⟨L, h1, h2⟩ := hd
      exact ⟨L, h c i L hi h1, h2⟩
    · cases hr
  | .agg l, b, v, hr, hd => by
    simp only [renA] at hr
    split at hr
    · rename_i m hm
      cases hr
      simp only [AV.den, Option.map_eq_some_iff] at hd ⊢
      obtain ⟨vs, h1, h2⟩ := hd
      exact ⟨vs, renL_den h hm h1, h2⟩
    · cases hr
  | .tup l, b, v, hr, hd => by
    simp only [renA] at hr
    split at hr
    · rename_i m hm
      cases hr
      simp only [AV.den, Option.map_eq_some_iff] at hd ⊢
      obtain ⟨vs, h1, h2⟩ := hd
      exact ⟨vs, renL_den h hm h1, h2⟩
    · cases hr
  | .fn f x y, b, v, hr, hd => by
    simp only [renA] at hr
    split at hr
    · rename_i x' hx
      split at hr
      · rename_i y' hy
        cases hr
        simp only [AV.den, Option.bind_eq_some_iff, Option.map_eq_some_iff] at hd ⊢
        obtain ⟨p, h1, q, h2, h3⟩ := hd
        exact ⟨p, renL_den h hx h1, q, renL_den h hy h2, h3⟩
      · cases hr
    · cases hr
  | .yld c, b, v, hr, hd => by
    simp only [renA] at hr
    split at hr
    · rename_i i hi
      cases hr
      simp only [AV.den, Option.bind_eq_some_iff] at hd ⊢
      obtain ⟨L, h1, h2⟩ := hd
      exact ⟨L, h c i L hi h1, h2⟩
    · cases hr
  | .mp c, b, v, hr, hd => by
    simp only [renA] at hr
    split at hr
    · rename_i i hi
      cases hr
      simp only [AV.den, Option.bind_eq_some_iff] at hd ⊢
      obtain ⟨L, h1, h2⟩ := hd
      exact ⟨L, h c i L hi h1, h2⟩
    · cases hr
  | .tb c x, b, v, hr, hd => by
    simp only [renA] at hr
    split at hr
    · rename_i i hi
      cases hr
      simp only [AV.den, Option.bind_eq_some_iff] at hd ⊢
      obtain ⟨L, h1, h2⟩ := hd
      exact ⟨L, h c i L hi h1, h2⟩
    · cases hr
  | .cnd b x, y, v, hr, hd => by simp [renA] at hr
theorem renL_den {τ : List (Nat × Nat)} {ρ ρ' : Env} (h : RenOk τ ρ ρ') : ∀ {l m : List AV} {vs : List Value}, renL τ l = some m → AV.denL ρ l = some vs → AV.denL ρ' m = some vs
  | [], m, vs, hr, hd => by simp only [renL, Option.some.injEq] at hr; subst hr; simpa [AV.denL] using hd
  | a :: l, m, vs, hr, hd => by
    simp only [renL] at hr
    split at hr
    · rename_i b hb
      split at hr
      · rename_i m' hm
        cases hr
        simp only [AV.denL] at hd ⊢
        obtain ⟨v, ws, h1, h2, rfl⟩ := listO_some hd
        rw [renA_den h hb h1, renL_den h hm h2]; rfl
      · cases hr
    · cases hr
end

def renC (τ : List (Nat × Nat)) : Cont → Option Cont
  | .exp l => match renL τ l with | some m => some (.exp m) | none => none
  | .app c l => match renC τ c with
    | some d => match renL τ l with | some m => some (.app d m) | none => none
    | none => none
  | .tbl j n len none => match look j τ with | some i => some (.tbl i n len none) | none => none
  | .tbl _ _ _ (some _) => none
  | .jbs j n sz hd len => match look j τ with | some i => some (.jbs i n sz hd len) | none => none
  | c => some c
theorem renC_den {τ : List (Nat × Nat)} {ρ ρ' : Env} (h : RenOk τ ρ ρ') : ∀ {c d : Cont} {vs : List Value}, renC τ c = some d → AV.denL ρ c.cells = some vs → AV.denL ρ' d.cells = some vs
  | .exp l, d, vs, hr, hd => by
    simp only [renC] at hr
    split at hr
    · rename_i m hm; cases hr; exact renL_den h hm hd
    · cases hr
  | .app c l, d, vs, hr, hd => by
    simp only [renC] at hr
    split at hr
    · rename_i d' hd'
      split at hr
      · rename_i m hm
        cases hr
        obtain ⟨a, b, h1, h2, rfl⟩ := denL_split hd
        exact denL_append (renC_den h hd' h1) (renL_den h hm h2)
      · cases hr
    · cases hr
  | .ints k l, d, vs, hr, hd => by simp only [renC, Option.some.injEq] at hr; subst hr; rw [ints_den] at hd ⊢; exact hd
  | .bools l, d, vs, hr, hd => by simp only [renC, Option.some.injEq] at hr; subst hr; rw [bools_den] at hd ⊢; exact hd
  | .gen n sz get, d, vs, hr, hd => by
    simp only [renC, Option.some.injEq] at hr
    subst hr
    obtain ⟨us, hu⟩ := litC_den (c := .gen n sz get) rfl
    rw [hu, denL_lits] at hd ⊢
    exact hd
  | .tbl j n len (some x), d, vs, hr, hd => by cases hr
  | .tbl j n len none, d, vs, hr, hd => by
    simp only [renC] at hr
    split at hr
    · rename_i i hi
      cases hr
      simp only [Cont.cells] at hd ⊢
      have key : ∀ (l : List Nat) (vs : List Value), AV.denL ρ (l.map (tblC j len none)) = some vs → AV.denL ρ' (l.map (tblC i len none)) = some vs := by
        intro l
        induction l with
        | nil => intro vs h; simpa [AV.denL] using h
        | cons q l ih =>
          intro vs hh
          simp only [List.map_cons, AV.denL] at hh ⊢
          obtain ⟨u, us, h3, h4, rfl⟩ := listO_some hh
          rw [ih us h4]
          have : AV.den ρ' (tblC i len none q) = some u := by
            simp only [tblC, AV.den, Option.bind_eq_some_iff] at h3 ⊢
            obtain ⟨L, h5, h6⟩ := h3
            exact ⟨L, h j i L hi h5, h6⟩
          rw [this]
          rfl
      exact key _ _ hd
    · cases hr
  | .jbs j n sz hd' len, d, vs, hr, hd => by
    simp only [renC] at hr
    split at hr
    · rename_i i hi
      cases hr
      simp only [Cont.cells] at hd ⊢
      have key : ∀ (l : List Nat) (vs : List Value), AV.denL ρ (l.map (jbsC j sz hd' len)) = some vs → AV.denL ρ' (l.map (jbsC i sz hd' len)) = some vs := by
        intro l
        induction l with
        | nil => intro vs h; simpa [AV.denL] using h
        | cons q l ih =>
          intro vs hh
          simp only [List.map_cons, AV.denL] at hh ⊢
          obtain ⟨u, us, h3, h4, rfl⟩ := listO_some hh
          rw [ih us h4]
          have : AV.den ρ' (jbsC i sz hd' len q) = some u := by
            unfold jbsC at h3 ⊢
            split
            · rename_i c
              rw [if_pos c] at h3
              simp only [AV.den, Option.bind_eq_some_iff] at h3 ⊢
              obtain ⟨L, h5, h6⟩ := h3
              exact ⟨L, h j i L hi h5, h6⟩
            · rename_i c
              rw [if_neg c] at h3
              simpa only [AV.den] using h3
          rw [this]
          rfl
      exact key _ _ hd
    · cases hr

def renEs (τ : List (Nat × Nat)) : List (Value × AV) → Option (List (Value × AV))
  | [] => some []
  | (k, a) :: l => match renA τ a with
    | some b => match renEs τ l with | some m => some ((k, b) :: m) | none => none
    | none => none
theorem renEs_is {τ : List (Nat × Nat)} {ρ ρ' : Env} (h : RenOk τ ρ ρ') : ∀ {l m : List (Value × AV)}, renEs τ l = some m → l.length = m.length ∧ ∀ n es, Ents ρ n l es → Ents ρ' n m es
  | [], m, e => by cases e; exact ⟨rfl, fun _ _ e => e⟩
  | (k, a) :: l, m, e => by
    simp only [renEs] at e
    split at e
    · rename_i b hb
      split at e
      · rename_i m' hm
        cases e
        obtain ⟨h1, h2⟩ := renEs_is h hm
        exact ⟨by simp [h1], fun n es ⟨v, es', e1, e2, e3⟩ => ⟨v, es', renA_den h hb e1, e2, h2 _ _ e3⟩⟩
      · cases e
    · cases e
def renO (τ : List (Nat × Nat)) : ObjK → Option ObjK
  | .map l => match renEs τ l with | some m => some (.map m) | none => none
  | .set l => some (.set l)
  | .iset l => some (.iset l)
  | .ix l => some (.ix l)
  | .sit s p => some (.sit s p)
  | .rcd .. => none
theorem renO_is {τ : List (Nat × Nat)} {ρ ρ' : Env} (h : RenOk τ ρ ρ') {k k' : ObjK} (hr : renO τ k = some k') {o : Obj} (ho : k.is ρ o) : k'.is ρ' o := by
  cases k with
  | map l =>
    simp only [renO] at hr
    split at hr
    · rename_i m hm
      cases hr
      obtain ⟨es, e1, e2⟩ := ho
      obtain ⟨h1, h2⟩ := renEs_is h hm
      exact ⟨es, h2 _ _ e1, by rw [e2, h1]⟩
    · cases hr
  | set l => cases hr; exact ho
  | iset l => cases hr; exact ho
  | ix l => cases hr; exact ho
  | sit s p => cases hr; exact ho
  | rcd => cases hr
def renK (τ : List (Nat × Nat)) : Chunk → Option Chunk
  | .blk t l => match renL τ l with | some m => some (.blk t m) | none => none
  | .rb t l => match renL τ l with | some m => some (.rb t m) | none => none
  | .row t n sz c => match renC τ c with | some d => some (.row t n sz d) | none => none
  | .ro n sz c => match renC τ c with | some d => some (.ro n sz d) | none => none
  | .obj k => match renO τ k with | some k' => some (.obj k') | none => none
  | .fam o t sz n len c => some (.fam o t sz n len c)
theorem renK_holds {τ : List (Nat × Nat)} {ρ ρ' : Env} (h : RenOk τ ρ ρ') {w : World} {c d : Chunk} {k i : Nat} (hr : renK τ c = some d) (hk : look k τ = some i) (hc : c.holds ρ k w) :
    d.holds ρ' i w ∧ (∀ g, d.occ ρ' i g → c.occ ρ k g) ∧ d.own = c.own := by
  have occ1 : ∀ {L : Loc} {g : Nat}, ρ k = some L → (∃ L' a, ρ' i = some L' ∧ L'.ad = some a ∧ a.block = g) → ∃ L' a, ρ k = some L' ∧ L'.ad = some a ∧ a.block = g := by
    rintro L g hL ⟨L', a, h1, h2, h3⟩
    rw [h k i L hk hL] at h1
    cases h1
    exact ⟨L, a, hL, h2, h3⟩
  cases c with
  | blk t l =>
    simp only [renK] at hr
    split at hr
    · rename_i m hm
      cases hr
      obtain ⟨g, cap, vs, h1, h2, h3⟩ := hc
      exact ⟨⟨g, cap, vs, h k i _ hk h1, renL_den h hm h2, h3⟩, fun g hg => occ1 h1 hg, rfl⟩
    · cases hr
  | rb t l =>
    simp only [renK] at hr
    split at hr
    · rename_i m hm
      cases hr
      obtain ⟨g, cap, vs, h1, h2, h3⟩ := hc
      exact ⟨⟨g, cap, vs, h k i _ hk h1, renL_den h hm h2, h3⟩, fun g hg => occ1 h1 hg, rfl⟩
    · cases hr
  | row t n sz c =>
    simp only [renK] at hr
    split at hr
    · rename_i m hm
      cases hr
      obtain ⟨L, vs, h1, h2, h3⟩ := hc
      exact ⟨⟨L, vs, h k i _ hk h1, renC_den h hm h2, h3⟩, fun g hg => occ1 h1 hg, rfl⟩
    · cases hr
  | ro n sz c =>
    simp only [renK] at hr
    split at hr
    · rename_i m hm
      cases hr
      obtain ⟨L, vs, h1, h2, h3⟩ := hc
      exact ⟨⟨L, vs, h k i _ hk h1, renC_den h hm h2, h3⟩, fun g hg => ⟨hg.1, occ1 h1 hg.2⟩, rfl⟩
    · cases hr
  | obj kk =>
    simp only [renK] at hr
    split at hr
    · rename_i m hm
      cases hr
      obtain ⟨g, cap, o, h1, h2, h3⟩ := hc
      exact ⟨⟨g, cap, o, h k i _ hk h1, renO_is h hm h2, h3⟩, fun g hg => occ1 h1 hg, rfl⟩
    · cases hr
  | fam o t sz n len c =>
    cases hr
    obtain ⟨L, h1, h2⟩ := hc
    refine ⟨⟨L, h k i _ hk h1, h2⟩, ?_, rfl⟩
    rintro g ⟨L', h3, h4⟩
    rw [h k i L hk h1] at h3
    cases h3
    exact ⟨L, h1, h4⟩

def renH (τ : List (Nat × Nat)) : List (Nat × Chunk) → Option (List (Nat × Chunk))
  | [] => some []
  | (k, c) :: l => match look k τ with
    | some i => match renK τ c with
      | some d => match renH τ l with | some m => some ((i, d) :: m) | none => none
      | none => none
    | none => none
theorem renH_look {τ : List (Nat × Nat)} : ∀ {l m : List (Nat × Chunk)}, renH τ l = some m → ∀ i d, look i m = some d → ∃ k c, (k, c) ∈ l ∧ look k τ = some i ∧ renK τ c = some d
  | [], m, h, i, d, hi => by cases h; cases hi
  | (k, c) :: l, m, h, i, d, hi => by
    simp only [renH] at h
    split at h
    · rename_i i' hk
      split at h
      · rename_i d' hd
        split at h
        · rename_i m' hm
          cases h
          rw [look_cons] at hi
          split at hi
          · rename_i e
            subst e
            cases hi
            exact ⟨k, c, List.mem_cons_self, hk, hd⟩
          · obtain ⟨k', c', h1, h2, h3⟩ := renH_look hm i d hi
            exact ⟨k', c', List.mem_cons_of_mem _ h1, h2, h3⟩
        · cases h
      · cases h
    · cases h

/-- No number twice. -/
def onceK (k : Nat) : List (Nat × Chunk) → Bool
  | [] => true
  | (j, _) :: l => match Nat.beq k j with | true => false | false => onceK k l
def onceH : List (Nat × Chunk) → Bool
  | [] => true
  | (k, _) :: l => match onceK k l with | true => onceH l | false => false
theorem onceK_no {k : Nat} : ∀ {l : List (Nat × Chunk)}, onceK k l = true → ∀ c, (k, c) ∉ l
  | [], _, c, h => by cases h
  | (j, d) :: l, h, c, hm => by
    simp only [onceK] at h
    split at h
    · cases h
    · rename_i hb
      rcases List.mem_cons.1 hm with e | hm
      · cases e; simp at hb
      · exact onceK_no h c hm
theorem once_look : ∀ {l : List (Nat × Chunk)}, onceH l = true → ∀ k c, (k, c) ∈ l → look k l = some c
  | [], _, k, c, h => by cases h
  | (j, d) :: l, h, k, c, hm => by
    simp only [onceH] at h
    split at h
    · rename_i h1
      rw [look_cons]
      rcases List.mem_cons.1 hm with e | hm2
      · cases e; simp
      · have hne : k ≠ j := by rintro rfl; exact onceK_no h1 c hm2
        rw [if_neg hne]
        exact once_look h k c hm2
    · cases h

/-- The numbers of what the call has been given, and of what it makes, in the caller. -/
def tauIn (σ : Ren) (nx0 : Nat) : List (Nat × Chunk) → Nat → List (Nat × Nat) → Option (List (Nat × Nat) × Nat)
  | [], nx, acc => some (acc, nx)
  | (c, _) :: l, nx, acc => match look c σ with
    | some (some i) => match Nat.blt i nx0 with
      | true => tauIn σ nx0 l nx ((c, i) :: acc)
      | false => none
    | some none => match nxt nx with
      | some nx1 => tauIn σ nx0 l nx1 ((c, nx) :: acc)
      | none => none
    | none => none
def tauOut (hin : List (Nat × Chunk)) : List (Nat × Chunk) → Nat → List (Nat × Nat) → Option (List (Nat × Nat) × Nat)
  | [], nx, acc => some (acc, nx)
  | (c, _) :: l, nx, acc => match look c hin with
    | some _ => tauOut hin l nx acc
    | none => match nxt nx with
      | some nx1 => tauOut hin l nx1 ((c, nx) :: acc)
      | none => none

structure TauOk (σ : Ren) (hin : List (Nat × Chunk)) (nx0 nx : Nat) (τ : List (Nat × Nat)) : Prop where
  le : nx0 ≤ nx
  lt : ∀ c i, (c, i) ∈ τ → i < nx
  uniq : ∀ c c' i, (c, i) ∈ τ → (c', i) ∈ τ → nx0 ≤ i → c = c'
  old : ∀ c i, (c, i) ∈ τ → i < nx0 → look c σ = some (some i) ∧ (look c hin).isSome = true

theorem TauOk.cons {σ : Ren} {hin : List (Nat × Chunk)} {nx0 nx : Nat} {τ : List (Nat × Nat)} (h : TauOk σ hin nx0 nx τ) (c : Nat) : TauOk σ hin nx0 (nx + 1) ((c, nx) :: τ) := by
  refine ⟨by have := h.le; omega, fun d i hm => ?_, fun d d' i hm hm' hi => ?_, fun d i hm hi => ?_⟩
  · rcases List.mem_cons.1 hm with e | hm
    · cases e; omega
    · have := h.lt d i hm; omega
  · rcases List.mem_cons.1 hm with e | hm <;> rcases List.mem_cons.1 hm' with e' | hm'
    · cases e; cases e'; rfl
    · cases e; have := h.lt d' _ hm'; omega
    · cases e'; have := h.lt d _ hm; omega
    · exact h.uniq d d' i hm hm' hi
  · rcases List.mem_cons.1 hm with e | hm
    · cases e; have := h.le; omega
    · exact h.old d i hm hi
theorem tauIn_ok {σ : Ren} {hin : List (Nat × Chunk)} {nx0 : Nat} : ∀ {l : List (Nat × Chunk)} {nx nx' : Nat} {acc τ : List (Nat × Nat)}, (∀ c d, (c, d) ∈ l → (look c hin).isSome = true) → TauOk σ hin nx0 nx acc → tauIn σ nx0 l nx acc = some (τ, nx') → TauOk σ hin nx0 nx' τ
  | [], nx, nx', acc, τ, hl, h, e => by cases e; exact h
  | (c, d) :: l, nx, nx', acc, τ, hl, h, e => by
    simp only [tauIn] at e
    have hl' : ∀ c d, (c, d) ∈ l → (look c hin).isSome = true := fun c d hm => hl c d (List.mem_cons_of_mem _ hm)
    split at e
    · rename_i i hi
      split at e
      · rename_i hb
        have hlt : i < nx0 := Nat.le_of_ble_eq_true hb
        refine tauIn_ok hl' ⟨h.le, fun c' i' hm => ?_, fun c1 c2 i' hm hm' hi' => ?_, fun c' i' hm hi' => ?_⟩ e
        · rcases List.mem_cons.1 hm with e | hm
          · cases e; have := h.le; omega
          · exact h.lt c' i' hm
        · rcases List.mem_cons.1 hm with e | hm
          · cases e; omega
          · rcases List.mem_cons.1 hm' with e | hm'
            · cases e; omega
            · exact h.uniq c1 c2 i' hm hm' hi'
        · rcases List.mem_cons.1 hm with e | hm
          · cases e; exact ⟨hi, hl c d List.mem_cons_self⟩
          · exact h.old c' i' hm hi'
      · cases e
    · split at e
      · rename_i h1
        cases nxt_eq h1
        exact tauIn_ok hl' (h.cons c) e
      · cases e
    · cases e
theorem tauOut_ok {σ : Ren} {hin : List (Nat × Chunk)} {nx0 : Nat} : ∀ {l : List (Nat × Chunk)} {nx nx' : Nat} {acc τ : List (Nat × Nat)}, TauOk σ hin nx0 nx acc → tauOut hin l nx acc = some (τ, nx') → TauOk σ hin nx0 nx' τ
  | [], nx, nx', acc, τ, h, e => by cases e; exact h
  | (c, d) :: l, nx, nx', acc, τ, h, e => by
    simp only [tauOut] at e
    split at e
    · exact tauOut_ok h e
    · split at e
      · rename_i h1
        cases nxt_eq h1
        exact tauOut_ok (h.cons c) e
      · cases e

def rlook (i : Nat) : List (Nat × Nat) → Option Nat
  | [] => none
  | (c, j) :: l => if j = i then some c else rlook i l
theorem rlook_mem {i c : Nat} : ∀ {l : List (Nat × Nat)}, rlook i l = some c → (c, i) ∈ l
  | [], h => by cases h
  | (d, j) :: l, h => by
    simp only [rlook] at h
    split at h
    · rename_i e; subst e; cases h; exact List.mem_cons_self
    · exact List.mem_cons_of_mem _ (rlook_mem h)
theorem rlook_some {i c : Nat} : ∀ {l : List (Nat × Nat)}, (c, i) ∈ l → ∃ d, rlook i l = some d
  | [], h => by cases h
  | (d, j) :: l, h => by
    simp only [rlook]
    split
    · exact ⟨_, rfl⟩
    · rename_i hne
      rcases List.mem_cons.1 h with e | h
      · cases e; exact absurd rfl hne
      · exact rlook_some h

/-- The caller's environment behind a call. -/
def backE (τ : List (Nat × Nat)) (nx nx' : Nat) (ρ ρ' : Env) : Env := fun i => if nx ≤ i ∧ i < nx' then (rlook i τ).bind ρ' else ρ i

theorem backE_ok {σ : Ren} {hin : List (Nat × Chunk)} {τ : List (Nat × Nat)} {nx nx' : Nat} {ρ ρ' : Env} (h : TauOk σ hin nx nx' τ) (hle : Env.le (renE σ ρ) ρ') (hdef : ∀ c, (look c hin).isSome = true → ∃ L, renE σ ρ c = some L) : RenOk τ ρ' (backE τ nx nx' ρ ρ') := by
  intro c i L hc hL
  have hm := look_mem hc
  have hlt := h.lt c i hm
  unfold backE
  by_cases hi : nx ≤ i
  · rw [if_pos ⟨hi, hlt⟩]
    obtain ⟨d, hd⟩ := rlook_some hm
    rw [hd]
    have := h.uniq d c i (rlook_mem hd) hm hi
    subst this
    exact hL
  · rw [if_neg (by omega)]
    obtain ⟨h1, h2⟩ := h.old c i hm (by omega)
    obtain ⟨L0, h3⟩ := hdef c h2
    have h4 := hle c L0 h3
    rw [hL] at h4
    cases h4
    rw [renE_some h1] at h3
    exact h3

/-- The chunks of the caller's that the call may have changed. -/
def ownIds (σ : Ren) : List (Nat × Chunk) → List Nat
  | [] => []
  | (c, d) :: l => match d.own with
    | true => match look c σ with | some (some i) => i :: ownIds σ l | _ => ownIds σ l
    | false => ownIds σ l
theorem ownIds_mem {σ : Ren} {c i : Nat} {d : Chunk} : ∀ {l : List (Nat × Chunk)}, (c, d) ∈ l → d.own = true → look c σ = some (some i) → i ∈ ownIds σ l
  | [], h, _, _ => by cases h
  | (c', d') :: l, h, ho, hi => by
    simp only [ownIds]
    rcases List.mem_cons.1 h with e | h
    · cases e
      rw [ho, hi]
      exact List.mem_cons_self
    · have ih := ownIds_mem h ho hi
      split
      · split
        · exact List.mem_cons_of_mem _ ih
        · exact ih
      · exact ih

def delAll (l : List Nat) (H : List (Nat × Chunk)) : List (Nat × Chunk) := match l with | [] => H | i :: l => delAll l (delA i H)
theorem look_delAll : ∀ (l : List Nat) (H : List (Nat × Chunk)) (k : Nat), look k (delAll l H) = if k ∈ l then none else look k H
  | [], H, k => by simp [delAll]
  | i :: l, H, k => by
    simp only [delAll]
    rw [look_delAll l, look_delA]
    by_cases h1 : k ∈ l
    · simp [h1]
    · by_cases h2 : k = i <;> simp [h1, h2]

def keysIn (hin : List (Nat × Chunk)) : Ren → Bool
  | [] => true
  | (c, _) :: l => match look c hin with | some _ => keysIn hin l | none => false
theorem keysIn_mem {hin : List (Nat × Chunk)} : ∀ {σ : Ren}, keysIn hin σ = true → ∀ c x, look c σ = some x → (look c hin).isSome = true
  | [], _, c, x, h => by cases h
  | (d, y) :: l, hk, c, x, h => by
    simp only [keysIn] at hk
    split at hk
    · rename_i h1
      rw [look_cons] at h
      split at h
      · rename_i e; subst e; rw [h1]; rfl
      · exact keysIn_mem hk c x h
    · cases hk

/-- The variables of the program that the call reads are known to the caller. -/
def glOk (σ : Ren) (globs : List (Nat × Nat)) : List (Nat × Nat) → Bool
  | [] => true
  | (g, c) :: l => match look c σ, look g globs with
    | some (some i), some i' => match Nat.beq i i' with | true => glOk σ globs l | false => false
    | _, _ => false
theorem glOk_mem {σ : Ren} {globs : List (Nat × Nat)} : ∀ {l : List (Nat × Nat)}, glOk σ globs l = true → ∀ g c, (g, c) ∈ l → ∃ i, look c σ = some (some i) ∧ (g, i) ∈ globs
  | [], _, g, c, h => by cases h
  | (g', c') :: l, h, g, c, hm => by
    simp only [glOk] at h
    split at h
    · rename_i i i' h1 h2
      split at h
      · rename_i hb
        cases Nat.eq_of_beq_eq_true hb
        rcases List.mem_cons.1 hm with e | hm
        · cases e; exact ⟨i, h1, look_mem h2⟩
        · exact glOk_mem h g c hm
      · cases h
    · cases h

/-- A call: the result, what it makes, what of the caller's it may have changed, the next number. -/
def callOp (cfg : Cfg) (T : List (Nat × AV)) (H : List (Nat × Chunk)) (nx : Nat) (I : Inst) (o : Oper) (acc : List Cd) : Option (AV × List (Nat × Chunk) × List Nat × Nat × List Cd) :=
  match o.op with
  | .call ⟨.value g, args, _⟩ => match ev cfg T acc g with
    | some (.fn f l m, acc1) => match evL cfg T args.toList acc1 with
      | some (as, acc2) => match Nat.beq f I.f && onceH I.hin && onceH I.hout && keysIn I.hin I.σ && loneH I.σ I.hin I.hin && glOk I.σ cfg.globs I.gl with
        | true => match cmpL I.σ I.args (l ++ (as ++ m)) acc2 with
          | some acc3 => match cmpH I.σ H I.hin acc3 with
            | some acc4 => match tauIn I.σ nx I.hin nx [] with
              | some (τ1, nx1) => match tauOut I.hin I.hout nx1 τ1 with
                | some (τ, nx') => match renA τ I.ret with
                  | some r => match renH τ I.hout with
                    | some hs => some (r, hs, ownIds I.σ I.hin, nx', acc4)
                    | none => none
                  | none => none
                | none => none
              | none => none
            | none => none
          | none => none
        | false => none
      | none => none
    | _ => none
  | _ => none

section
variable {cfg : Cfg} {P : Program} {T : List (Nat × AV)} {H : List (Nat × Chunk)} {ρ : Env} {a : Act} {w : World} {F : Frm} {U : Nat → Prop}

/-- What a call gives its caller, all told. -/
structure CallGot (nx nx' : Nat) (ρ ρ'' : Env) (H N : HMap) (gone : List Nat) (w w' : World) : Prop where
  le : nx ≤ nx'
  env : ∀ i, ¬ (nx ≤ i ∧ i < nx') → ρ'' i = ρ i
  holds : ∀ i c, N i = some c → c.holds ρ'' i w'
  fresh : ∀ i c, N i = some c → ∀ g, c.occ ρ'' i g → w.heap.size ≤ g ∨ ∃ j d, j ∈ gone ∧ H j = some d ∧ d.own = true ∧ d.occ ρ j g
  apart : ∀ i c, N i = some c → c.own = true → ∀ j d, N j = some d → j ≠ i → ∀ g, c.occ ρ'' i g → ¬ d.occ ρ'' j g
  new : ∀ i c, N i = some c → (nx ≤ i ∧ i < nx') ∨ (i < nx ∧ ∃ L, ρ i = some L)
  touch : Touch (fun g => ∃ j d, j ∈ gone ∧ H j = some d ∧ d.own = true ∧ d.occ ρ j g) w w'

theorem callOp_sound (hk : Know cfg P (fun k => look k T) (fun k => look k H) ρ a w) {nx : Nat} {I : Inst} (hI : I.ok P) {o : Oper} {acc acc' : List Cd} {r : AV} {N : List (Nat × Chunk)} {gone : List Nat} {nx' : Nat}
    (h : callOp cfg T H nx I o acc = some (r, N, gone, nx', acc')) (hc : All acc') {K : Act → World → Prop} {Q : Exit → Act → World → Prop}
    (hK : All acc → ∀ v w' ρ'', CallGot nx nx' ρ ρ'' (fun k => look k H) (fun k => look k N) gone w w' → r.den ρ'' = some v → K (a.put o.dst v) w') {rd : Option Nat} : All acc ∧ o.wpIn (fen rd) 2 P a w K Q := by
  unfold callOp at h
  split at h
  case h_2 => cases h
  rename_i g args ts ho
  split at h
  case h_2 => cases h
  rename_i f l m acc1 h1
  split at h
  case h_2 => cases h
  rename_i as acc2 h2
  split at h
  case h_2 => cases h
  rename_i hb
  split at h
  case h_2 => cases h
  rename_i acc3 h3
  split at h
  case h_2 => cases h
  rename_i acc4 h4
  split at h
  case h_2 => cases h
  rename_i τ1 nx1 h5
  split at h
  case h_2 => cases h
  rename_i τ nx2 h6
  split at h
  case h_2 => cases h
  rename_i r' h7
  split at h
  case h_2 => cases h
  rename_i hs h8
  cases h
  simp only [Bool.and_eq_true] at hb
  obtain ⟨⟨⟨⟨⟨hf, honce1⟩, honce2⟩, hkeys⟩, hlone⟩, hglo⟩ := hb
  cases Nat.eq_of_beq_eq_true hf
  obtain ⟨hc3, hheap, hown⟩ := cmpH_sound hk.heap (fun _ _ e => e) h4 hc hlone
  have hall := (cmpH_all hk.heap (fun _ _ e => e) h4 hc).2
  obtain ⟨hc2, hargs⟩ := cmpL_sound (ρ := ρ) h3 hc3
  obtain ⟨hc1, vs, hv1, hv2⟩ := evL_sound hk h2 hc2
  obtain ⟨hc0, vg, hg1, hg2⟩ := ev_sound hk h1 hc1
  refine ⟨hc0, ?_⟩
  simp only [AV.den, Option.bind_eq_some_iff, Option.map_eq_some_iff] at hg1
  obtain ⟨x1, e1, x2, e2, rfl⟩ := hg1
  have hden := hargs _ (denL_append e1 (denL_append hv1 e2))
  obtain ⟨⟨fn, hfn, hcall⟩, hspec⟩ := hI
  have hdef : ∀ c, (look c I.hin).isSome = true → ∃ L, renE I.σ ρ c = some L := by
    intro c hcs
    obtain ⟨d, hd⟩ := Option.isSome_iff_exists.1 hcs
    have := hheap.holds c d hd
    cases d with
    | blk t l => obtain ⟨b, cap, vs, e, _⟩ := this; exact ⟨_, e⟩
    | rb t l => obtain ⟨b, cap, vs, e, _⟩ := this; exact ⟨_, e⟩
    | row t n sz c => obtain ⟨L, vs, e, _⟩ := this; exact ⟨_, e⟩
    | ro n sz c => obtain ⟨L, vs, e, _⟩ := this; exact ⟨_, e⟩
    | obj k => obtain ⟨b, cap, vs, e, _⟩ := this; exact ⟨_, e⟩
    | fam => obtain ⟨L, e, _⟩ := this; exact ⟨_, e⟩
  have hdom : ∀ i L, renE I.σ ρ i = some L → (look i I.hin).isSome = true := by
    intro i L e
    unfold renE at e
    cases hl : look i I.σ with
    | none => rw [hl] at e; cases e
    | some x => exact keysIn_mem hkeys i x hl
  have hcalls := hspec (renE I.σ ρ) w _ hdom (fun g c hm => by obtain ⟨i, q1, q2⟩ := glOk_mem hglo g c hm; rw [renE_some q1]; exact hk.gl g i q2) hheap hden
  have hτ1 : TauOk I.σ I.hin nx nx1 τ1 := by
    refine tauIn_ok (fun c d hm => ?_) ⟨Nat.le_refl _, fun c i hm => (by cases hm), fun c c' i hm => (by cases hm), fun c i hm => (by cases hm)⟩ h5
    rw [once_look honce1 c d hm]; rfl
  have hτ := tauOut_ok hτ1 h6
  have hrun : (execOp a.eval o).run P w = .ok (.enter I.f (x1 ++ (vs ++ x2)).toArray) w := by
    simp only [execOp, ho, resolve, Sem.run_bind, arr_map _ _ hv2, hg2, Deferred.ofValue, Sem.run_pure, Result.andThen_ok, invoke]
    have := callFunc_run (P := P) (w := w) hfn hcall (x1.toArray ++ vs.toArray ++ x2.toArray)
    rw [this]
    have e : x1.toArray ++ vs.toArray ++ x2.toArray = (x1 ++ (vs ++ x2)).toArray := by simp
    rw [e]
  refine wpIn_call (by rw [ho]; intro c hc; cases hc) hrun ?_
  refine hcalls.mono ?_
  rintro e w' ⟨ρ', v, rfl, hret, hle, hheap', hseen, htouch⟩
  have hren : RenOk τ ρ' (backE τ nx nx' ρ ρ') := backE_ok hτ hle hdef
  have gone1 : ∀ g, Owned (renE I.σ ρ) (fun k => look k I.hin) g → ∃ j d, j ∈ ownIds I.σ I.hin ∧ look j H = some d ∧ d.own = true ∧ d.occ ρ j g := by
    intro g hg
    obtain ⟨k, c, i, d, f1, f2, f3, f4, f5, f6⟩ := hown g hg
    exact ⟨i, d, ownIds_mem (look_mem f1) f2 f3, f4, f5, f6⟩
  have back : ∀ i d, look i N = some d → ∃ k c, look k I.hout = some c ∧ look k τ = some i ∧ renK τ c = some d := by
    intro i d hi
    obtain ⟨k, c, f1, f2, f3⟩ := renH_look h8 i d hi
    exact ⟨k, c, once_look honce2 k c f1, f2, f3⟩
  refine hK hc0 v w' (backE τ nx nx' ρ ρ') ⟨hτ.le, fun i hi => by unfold backE; rw [if_neg hi], fun i d hi => ?_, fun i d hi g hg => ?_, fun i d hi ho2 j d' hj hne g hg hg' => ?_, fun i d hi => ?_, ?_⟩ (renA_den hren h7 hret)
  · obtain ⟨k, c, f1, f2, f3⟩ := back i d hi
    exact (renK_holds hren f3 f2 (hheap'.holds k c f1)).1
  · obtain ⟨k, c, f1, f2, f3⟩ := back i d hi
    have := (renK_holds hren f3 f2 (hheap'.holds k c f1)).2.1 g hg
    rcases hseen g ⟨k, c, f1, this⟩ with h9 | h9
    · exact .inl h9
    · exact .inr (gone1 g h9)
  · obtain ⟨k, c, f1, f2, f3⟩ := back i d hi
    obtain ⟨k', c', g1, g2, g3⟩ := back j d' hj
    have p1 := renK_holds hren f3 f2 (hheap'.holds k c f1)
    have p2 := renK_holds hren g3 g2 (hheap'.holds k' c' g1)
    refine hheap'.apart k c f1 (p1.2.2 ▸ ho2) k' c' g1 ?_ g (p1.2.1 g hg) (p2.2.1 g hg')
    rintro rfl
    rw [f2] at g2; cases g2
    exact hne rfl
  · obtain ⟨k, c, f1, f2, f3⟩ := back i d hi
    have hm := look_mem f2
    by_cases hin : nx ≤ i
    · exact .inl ⟨hin, hτ.lt k i hm⟩
    · right
      refine ⟨by omega, ?_⟩
      obtain ⟨q1, q2⟩ := hτ.old k i hm (by omega)
      obtain ⟨L, hL⟩ := hdef k q2
      rw [renE_some q1] at hL
      exact ⟨L, hL⟩
  · exact htouch.mono fun g _ hg => gone1 g hg

end
end Go.Sym

namespace Go.Sym
open Go.RowKit

/-- What a run is told besides the code: by the numbers of operations. -/
structure HintX extends Hint where
  g : Option Bool := none
structure Told where
  hs : List (Nat × HintX) := []
  cu : List (Nat × Custom) := []
  calls : List (Nat × Inst) := []

def kindOf : Op → Nat
  | .alloc _ | .box _ _ | .buildSlice _ _ _ | .makeSlice _ _ _ | .slice _ _ _ _ _ => 1
  | .makeMap _ _ | .range _ _ => 1
  | .store _ _ _ | .mapUpdate _ _ _ _ | .insert _ _ _ _ | .next _ _ => 2
  | .call ⟨.builtin .append, _, _⟩ => 2
  | .call ⟨.builtin .copy, _, _⟩ => 2
  | .call ⟨.value _, _, _⟩ => 3
  | _ => 0

/-- Whether a guarded operation is run. -/
def guardOf (ops : List Oper) (T : List (Nat × AV)) (j : Nat) (want : Bool) : Option Bool :=
  match nth ops j with
  | some oj => match oj.dst with
    | some d => match look d T with
      | some (.lit (.bool b)) => match want with | true => some b | false => some (!b)
      | some (.cnd b' (.lit (.bool b))) => match want with | true => some (b' && b) | false => some (b' && !b)
      | some (.lit (.tuple _)) => some false
      | _ => none
    | none => none
  | none => none

/-- The value of a test, said to be this one. -/
def force1 (h : Option Bool) (r : AV) (acc : List Cd) : AV × List Cd :=
  match h, r with
  | some b, .lit (.bool x) => (.lit (.bool b), cd (x = b) :: acc)
  | _, r => (r, acc)

structure St where
  T : List (Nat × AV)
  H : List (Nat × Chunk)
  nx : Nat

def putT (nt : Nat) (d : Option Tmp) (r : AV) (T : List (Nat × AV)) : Option (List (Nat × AV)) :=
  match d with
  | none => some T
  | some d => match Nat.blt d nt with | true => some ((d, r) :: T) | false => none

def delAllK (l : List Nat) (H : List (Nat × Chunk)) (N : List (Nat × Chunk)) : List (Nat × Chunk) := N ++ delAll l H

/-- An operation that is run. -/
def runOp (cfg : Cfg) (t : Told) (i : Nat) (h : HintX) (o : Oper) (T : List (Nat × AV)) (H : List (Nat × Chunk)) (nx : Nat) (acc : List Cd) : Option (St × List Cd) :=
  match kindOf o.op with
  | 0 => match pureOp cfg T H h.i1 (look i t.cu) o acc with
    | some (r, acc1) => match force1 h.b r acc1 with
      | (r', acc2) => match putT cfg.nt o.dst r' T with
        | some T' => some (⟨T', H, nx⟩, acc2)
        | none => none
    | none => none
  | 1 => match extOp cfg T H nx h.toHint o acc with
    | some (r, c, acc1) => match putT cfg.nt o.dst r T, nxt nx with
      | some T', some nx' => some (⟨T', (nx, c) :: H, nx'⟩, acc1)
      | _, _ => none
    | none => match mutOp cfg T H nx h.b o acc with
      | some (r, H', acc1) => match putT cfg.nt o.dst r T, nxt nx with
        | some T', some nx' => some (⟨T', H', nx'⟩, acc1)
        | _, _ => none
      | none => none
  | 2 => match mutOp cfg T H nx h.b o acc with
    | some (r, H', acc1) => match putT cfg.nt o.dst r T, nxt nx with
      | some T', some nx' => some (⟨T', H', nx'⟩, acc1)
      | _, _ => none
    | none => none
  | _ => match look i t.calls with
    | some I => match callOp cfg T H nx I o acc with
      | some (r, N, gone, nx', acc1) => match putT cfg.nt o.dst r T with
        | some T' => forceK (delAllK gone H N) [] fun H' => some (⟨T', H', nx'⟩, acc1)
        | none => none
      | none => none
    | none => none

/-- An operation under a guard of this value. -/
def guarded (cfg : Cfg) (t : Told) (i : Nat) (h : HintX) (B : Bool) (o : Oper) (T : List (Nat × AV)) (H : List (Nat × Chunk)) (nx : Nat) (acc : List Cd) : Option (St × List Cd) :=
  match h.g with
  | some true => runOp cfg t i h o T H nx (cd (B = true) :: acc)
  | some false => match putT cfg.nt o.dst (.lit undef) T with
    | some T' => some (⟨T', H, nx⟩, cd (B = false) :: acc)
    | none => none
  | none => match Nat.beq (kindOf o.op) 0 with
    | true => match pureOp cfg T H h.i1 (look i t.cu) o [] with
      | some (r, cs) => match putT cfg.nt o.dst (.cnd B r) T with
        | some T' => match cs with
          | [] => some (⟨T', H, nx⟩, acc)
          | c :: cs' => some (⟨T', H, nx⟩, cp (B = true → All (c :: cs')) :: acc)
        | none => none
      | none => none
    | false => match B with
      | true => runOp cfg t i h o T H nx acc
      | false => match putT cfg.nt o.dst (.lit undef) T with
        | some T' => some (⟨T', H, nx⟩, acc)
        | none => none

/-- An operation of a region. -/
def stepH (cfg : Cfg) (t : Told) (ops : List Oper) (i : Nat) (h : HintX) (o : Oper) (T : List (Nat × AV)) (H : List (Nat × Chunk)) (nx : Nat) (acc : List Cd) : Option (St × List Cd) :=
  match o.guard with
  | none => runOp cfg t i h o T H nx acc
  | some (j, want) => match guardOf ops T j want with
    | none => none
    | some B => guarded cfg t i h B o T H nx acc
def stepOp (cfg : Cfg) (t : Told) (ops : List Oper) (i : Nat) (o : Oper) (T : List (Nat × AV)) (H : List (Nat × Chunk)) (nx : Nat) (acc : List Cd) : Option (St × List Cd) :=
  match look i t.hs with
  | some h => stepH cfg t ops i h o T H nx acc
  | none => stepH cfg t ops i {} o T H nx acc

/-- The world's facts that do not turn during a call. -/
structure CfgOk (F : Frm) (cfg : Cfg) : Prop where
  tv : TValid F.P cfg.tys
  nt : cfg.nt = F.nt
  gl : ∀ g i, (g, i) ∈ cfg.globs → i < F.m ∧ ∃ c, F.ρ0 i = some ⟨some ⟨g, 0, none⟩, c⟩

def Told.ok (P : Program) (t : Told) : Prop := (∀ p ∈ t.cu, p.2.ok P) ∧ ∀ p ∈ t.calls, p.2.ok P

/-- A state, with all that goes with it. -/
structure Holds (F : Frm) (T : List (Nat × AV)) (H : List (Nat × Chunk)) (nx : Nat) (ρ : Env) (a : Act) (w : World) : Prop where
  m : F.m ≤ nx
  I : Interp F (fun i => i < nx) (fun k => look k T) (fun k => look k H) ρ a w

section
variable {cfg : Cfg} {F : Frm} {T : List (Nat × AV)} {H : List (Nat × Chunk)} {nx : Nat} {ρ : Env} {a : Act} {w : World}

theorem CfgOk.know (hC : CfgOk F cfg) {U : Nat → Prop} {T' : TMap} {H' : HMap} (hI : Interp F U T' H' ρ a w) : Know cfg F.P T' H' ρ a w :=
  ⟨hC.tv, fun g i hm => by obtain ⟨h1, c, h2⟩ := hC.gl g i hm; exact ⟨c, (hI.keep i h1).trans h2⟩, hI.tm, hI.heap⟩

theorem putT_sound (hC : CfgOk F cfg) (hH : Holds F T H nx ρ a w) {d : Option Tmp} {r : AV} {T' : List (Nat × AV)} {v : Value} (h : putT cfg.nt d r T = some T') (hv : r.den ρ = some v) : Holds F T' H nx ρ (a.put d v) w := by
  refine ⟨hH.m, ?_⟩
  cases d with
  | none => cases h; exact (hH.I.put none (fun k e => by cases e) hv).sub (fun _ _ _ h => h) (fun _ _ h => h) (fun _ _ h => h)
  | some d =>
    simp only [putT] at h
    split at h
    · rename_i hb
      cases h
      have hlt : d < F.nt := by rw [← hC.nt]; exact Nat.le_of_ble_eq_true hb
      refine (hH.I.put (some d) (fun k e => by cases e; exact hlt) hv).sub (fun _ _ _ h => h) (fun k v h => ?_) (fun _ _ h => h)
      rw [look_cons] at h
      simp only [updO, upd]
      exact h
    · cases h

theorem force1_sound {h : Option Bool} {r r' : AV} {acc acc' : List Cd} (e : force1 h r acc = (r', acc')) (hc : All acc') : All acc ∧ r' = r := by
  unfold force1 at e
  split at e
  · cases e
    obtain ⟨h1, h2⟩ := hc
    exact ⟨h2, by rw [h1]⟩
  · cases e; exact ⟨hc, rfl⟩

theorem look_append {α : Type} : ∀ (l m : List (Nat × α)) (k : Nat), look k (l ++ m) = (look k l).or (look k m)
  | [], m, k => by simp [look]
  | (j, a) :: l, m, k => by
    rw [List.cons_append, look_cons, look_cons, look_append l m k]
    by_cases h : k = j <;> simp [h]

/-- Behind a call. -/
theorem call_state (hH : Holds F T H nx ρ a w) {nx' : Nat} {ρ'' : Env} {N : List (Nat × Chunk)} {gone : List Nat} {w' : World} (h : CallGot nx nx' ρ ρ'' (fun k => look k H) (fun k => look k N) gone w w') :
    Holds F T (delAllK gone H N) nx' ρ'' a w' ∧ Env.le ρ ρ'' := by
  have hle : Env.le ρ ρ'' := by
    intro i L e
    rw [h.env i (fun hi => ?_)]
    · exact e
    · have := hH.I.dom i L e; (try dsimp only at this); omega
  have hlook : ∀ i c, look i (delAllK gone H N) = some c → look i N = some c ∨ (look i N = none ∧ i ∉ gone ∧ look i H = some c) := by
    intro i c e
    unfold delAllK at e
    rw [look_append, look_delAll] at e
    cases hn : look i N with
    | some d => rw [hn] at e; exact .inl (by simpa using e)
    | none =>
      rw [hn] at e
      by_cases hg : i ∈ gone
      · simp [hg] at e
      · simp only [hg, if_false, Option.none_or] at e
        exact .inr ⟨rfl, hg, e⟩
  have hgone : ∀ {i c g}, i ∉ gone → look i H = some c → c.occ ρ i g → ¬ ∃ j d, j ∈ gone ∧ look j H = some d ∧ d.own = true ∧ d.occ ρ j g := by
    rintro i c g hi e hg ⟨j, d, h1, h2, h3, h4⟩
    exact hH.I.heap.apart j d h2 h3 i c e (fun e => hi (e ▸ h1)) g h4 hg
  have hkeep : ∀ {i c}, i ∉ gone → look i H = some c → c.holds ρ'' i w' ∧ ∀ g, c.occ ρ'' i g → c.occ ρ i g := by
    intro i c hi e
    have h0 := hH.I.heap.holds i c e
    refine ⟨Chunk.holds_mono hle (Chunk.holds_ext h0 fun g hg => ?_), fun g hg => Chunk.occ_mono hle h0 hg⟩
    exact h.touch.block g (Chunk.holds_lt h0 hg) (hgone hi e hg)
  refine ⟨⟨Nat.le_trans hH.m h.le, ?_⟩, hle⟩
  refine hH.I.step hle (fun i hi => h.env i (fun hi' => ?_)) (fun i L e => ?_) ⟨fun i c e => ?_, fun i c e ho j d e' hne g hg hg' => ?_⟩ ?_ ?_ (KeepM.touch h.touch fun g ⟨j, d, _, h1, _, h2⟩ => Chunk.holds_odd (hH.I.heap.holds j d h1) h2)
  · have := hH.m; omega
  · by_cases hi : nx ≤ i ∧ i < nx'
    · exact hi.2
    · rw [h.env i hi] at e
      have := hH.I.dom i L e
      have := h.le
      (try dsimp only at *); omega
  · rcases hlook i c e with e | ⟨_, h1, e⟩
    · exact h.holds i c e
    · exact (hkeep h1 e).1
  · rcases hlook i c e with e | ⟨_, h1, e⟩ <;> rcases hlook j d e' with e' | ⟨_, h2, e'⟩
    · exact h.apart i c e ho j d e' hne g hg hg'
    · have hg2 := (hkeep h2 e').2 g hg'
      rcases h.fresh i c e g hg with h3 | h3
      · have := Chunk.holds_lt (hH.I.heap.holds j d e') hg2; omega
      · exact hgone h2 e' hg2 h3
    · have hg2 := (hkeep h1 e).2 g hg
      rcases h.fresh j d e' g hg' with h3 | h3
      · have := Chunk.holds_lt (hH.I.heap.holds i c e) hg2; omega
      · exact hgone h1 e hg2 h3
    · exact hH.I.heap.apart i c e ho j d e' hne g ((hkeep h1 e).2 g hg) ((hkeep h2 e').2 g hg')
  · rintro g ⟨i, c, e, ho, hg⟩
    rcases hlook i c e with e | ⟨_, h1, e⟩
    · rcases h.fresh i c e g hg with h3 | ⟨j, d, _, h4, h5, h6⟩
      · left; have := hH.I.touch.size; omega
      · exact hH.I.fresh g ⟨j, d, h4, h5, h6⟩
    · exact hH.I.fresh g ⟨i, c, e, ho, (hkeep h1 e).2 g hg⟩
  · refine hH.I.touch.trans h.touch ?_
    rintro g ⟨j, d, _, h4, h5, h6⟩
    exact (hH.I.fresh g ⟨j, d, h4, h5, h6⟩).elim .inr .inl

theorem runOp_sound (hC : CfgOk F cfg) {t : Told} (ht : t.ok F.P) (hH : Holds F T H nx ρ a w) {i : Nat} {h : HintX} {o : Oper} {acc acc' : List Cd} {s : St} (hr : runOp cfg t i h o T H nx acc = some (s, acc')) (hc : All acc')
    {K : Act → World → Prop} {Q : Exit → Act → World → Prop} (hK : ∀ ρ' a' w', Env.le ρ ρ' → Holds F s.T s.H s.nx ρ' a' w' → K a' w') {rd : Option Nat} : All acc ∧ o.wpIn (fen rd) 2 F.P a w K Q := by
  have hk := hC.know hH.I
  have hnone : ρ nx = none := by
    cases e : ρ nx with
    | none => rfl
    | some L => have := hH.I.dom nx L e; (try dsimp only at this); omega
  have nd : kindOf o.op ≠ 0 → ∀ c, o.op ≠ .defer c := fun h c e => h (by rw [e]; rfl)
  unfold runOp at hr
  split at hr
  · rename_i hkind
    split at hr
    · rename_i r acc1 h1
      split at hr
      rename_i r' acc2 h2
      split at hr
      · rename_i T' h3
        cases hr
        obtain ⟨hc1, rfl⟩ := force1_sound h2 hc
        obtain ⟨hc0, v, h4, h5⟩ := pureOp_sound hk (fun c e => ht.1 (i, c) (look_mem e)) h1 hc1
        exact ⟨hc0, wpIn_ok (pureOp_nd h1) h5 (.inl rfl) (hK ρ _ _ (Env.le.refl ρ) (putT_sound hC hH h3 h4))⟩
      · cases hr
    · cases hr
  · rename_i hkind
    split at hr
    · rename_i r c acc1 h1
      split at hr
      · rename_i T' nx' h2 hnx
        cases nxt_eq hnx
        cases hr
        obtain ⟨hc0, v, w', L, h3, h4, h5⟩ := extOp_sound hk hnone h1 hc
        refine ⟨hc0, wpIn_ok (nd (by omega)) h3 (.inl rfl) (hK (envSet ρ nx L) _ _ (envSet_le hnone) (putT_sound hC ⟨show F.m ≤ nx + 1 by have := hH.m; omega, ?_⟩ h2 h5))⟩
        have hheap := hH.I.heap.add h4
        refine (hH.I.step h4.le (fun i hi => h4.only i (by have := hH.m; omega)) (U' := fun i => i < nx + 1) (fun i L' e => ?_) hheap (fun g hg => ?_) (hH.I.touch.trans (Touch.of_below (s := fun _ => False) h4.below) (fun _ h => h.elim)) (KeepM.below h4.below)).sub (fun _ _ _ h => h) (fun _ _ h => h) (fun k c' h => ?_)
        · by_cases hi : i = nx
          · subst hi; (try dsimp only); omega
          · rw [h4.only i hi] at e
            have := hH.I.dom i L' e
            (try dsimp only at *); omega
        · rcases owned_add hH.I.heap h4 hg with h6 | h6
          · left; have := hH.I.touch.size; omega
          · exact hH.I.fresh g h6
        · (try dsimp only at h)
          rw [look_cons] at h
          unfold orMap oneMap
          by_cases hk : k = nx
          · subst hk
            rw [if_pos rfl] at h ⊢
            simpa using h
          · rw [if_neg hk] at h ⊢
            simpa using h
      · cases hr
    · split at hr
      · rename_i r H' acc1 h1
        split at hr
        · rename_i T' nx' h2 hnx
          cases nxt_eq hnx
          cases hr
          obtain ⟨hc0, v, w', ρ', h3, h4, h5, h6⟩ := mutOp_sound hH.I hk (by omega) (by have := hH.m; omega) h1 hc
          refine ⟨hc0, ?_⟩
          have hH' : Holds F T H' (nx + 1) ρ' a w' := ⟨by have := hH.m; omega, h6.sub (fun i L _ h => by (try dsimp only); omega) (fun _ _ h => h) (fun _ _ h => h)⟩
          rcases h3 with h3 | ⟨h3, rfl⟩
          · exact wpIn_ok (nd (by omega)) h3 (.inl rfl) (hK ρ' _ _ h5 (putT_sound hC hH' h2 h4))
          · exact wpIn_ok (nd (by omega)) h3 (.inr ⟨rfl, rfl⟩) (hK ρ' _ _ h5 (putT_sound hC hH' h2 h4))
        · cases hr
      · cases hr
  · rename_i hkind
    split at hr
    · rename_i r H' acc1 h1
      split at hr
      · rename_i T' nx' h2 hnx
        cases nxt_eq hnx
        cases hr
        obtain ⟨hc0, v, w', ρ', h3, h4, h5, h6⟩ := mutOp_sound hH.I hk (by omega) (by have := hH.m; omega) h1 hc
        refine ⟨hc0, ?_⟩
        have hH' : Holds F T H' (nx + 1) ρ' a w' := ⟨by have := hH.m; omega, h6.sub (fun i L _ h => by (try dsimp only); omega) (fun _ _ h => h) (fun _ _ h => h)⟩
        rcases h3 with h3 | ⟨h3, rfl⟩
        · exact wpIn_ok (nd (by omega)) h3 (.inl rfl) (hK ρ' _ _ h5 (putT_sound hC hH' h2 h4))
        · exact wpIn_ok (nd (by omega)) h3 (.inr ⟨rfl, rfl⟩) (hK ρ' _ _ h5 (putT_sound hC hH' h2 h4))
      · cases hr
    · cases hr
  · split at hr
    · rename_i I h1
      split at hr
      · rename_i r N gone nx' acc1 h2
        split at hr
        · rename_i T' h3
          rw [force_eq] at hr
          cases hr
          refine callOp_sound hk (ht.2 (i, I) (look_mem h1)) h2 hc fun _ v w' ρ'' hg hv => ?_
          exact hK ρ'' _ _ (fun j L e => by have := hH.I.dom j L e; rw [hg.env j (fun h => by (try dsimp only at this); omega)]; exact e) (putT_sound hC (call_state hH hg).1 h3 hv)
        · cases hr
      · cases hr
    · cases hr

theorem guardOf_sound (hI : Holds F T H nx ρ a w) {ops : Array Oper} {j : Nat} {want B : Bool} {o : Oper} (hg : o.guard = some (j, want)) (h : guardOf ops.toList T j want = some B) : Region.wanted o (yielded ops a.tmps) = B := by
  unfold guardOf at h
  split at h
  · rename_i oj h1
    rw [nth_eq, Array.getElem?_toList] at h1
    split at h
    · rename_i d h2
      have hy : ∀ v, a.tmps[d]? = some v → yielded ops a.tmps j = (match v with | .bool b => some b | _ => none) := by
        intro v hv
        simp only [yielded, h1, Option.bind_some, h2, hv]
        cases v <;> rfl
      have key : ∀ x, yielded ops a.tmps j = x → Region.wanted o (yielded ops a.tmps) = (x == some want) := by
        intro x e
        simp only [Region.wanted, hg, e]
      split at h
      · rename_i b h3
        obtain ⟨v, h4, h5⟩ := hI.I.tm d _ h3
        simp only [AV.den, Option.some.injEq] at h4
        subst h4
        rw [key _ (hy _ h5)]
        split at h <;> (simp only [Option.some.injEq] at h; subst h) <;> cases b <;> rfl
      · rename_i b' b h3
        obtain ⟨v, h4, h5⟩ := hI.I.tm d _ h3
        cases b' with
        | true =>
          simp only [AV.den, Option.some.injEq] at h4
          subst h4
          rw [key _ (hy _ h5)]
          split at h <;> (simp only [Option.some.injEq] at h; subst h) <;> cases b <;> rfl
        | false =>
          simp only [AV.den, Option.some.injEq] at h4
          subst h4
          rw [key _ (hy _ h5)]
          split at h <;> (simp only [Option.some.injEq] at h; subst h) <;> cases b <;> rfl
      · rename_i vs h3
        obtain ⟨v, h4, h5⟩ := hI.I.tm d _ h3
        simp only [AV.den, Option.some.injEq] at h4
        subst h4
        cases h
        rw [key _ (hy _ h5)]
        cases want <;> rfl
      · cases h
    · cases h
  · cases h

theorem stepH_sound (hC : CfgOk F cfg) {t : Told} (ht : t.ok F.P) (hH : Holds F T H nx ρ a w) {ops : Array Oper} {i : Nat} {o : Oper} (ho : ops[i]? = some o) {acc acc' : List Cd} {h : HintX} {s : St} (hr : stepH cfg t ops.toList i h o T H nx acc = some (s, acc')) (hc : All acc')
    {K : Act → World → Prop} {Q : Exit → Act → World → Prop} (hK : ∀ ρ' a' w', Env.le ρ ρ' → Holds F s.T s.H s.nx ρ' a' w' → K a' w') {rd : Option Nat} : All acc ∧ wpOpIn (fen rd) 2 F.P ops Q i K a w := by
  unfold stepH at hr
  split at hr
  · rename_i hg
    have hw : Region.wanted o (yielded ops a.tmps) = true := by simp [Region.wanted, hg]
    obtain ⟨h1, h2⟩ := runOp_sound (Q := Q) hC ht hH hr hc hK
    exact ⟨h1, wpOpIn_on ho hw h2⟩
  · rename_i j want hg
    split at hr
    · cases hr
    · rename_i B hB
      have hw := guardOf_sound hH hg hB
      unfold guarded at hr
      split at hr
      · obtain ⟨⟨h1, h2⟩, h3⟩ := runOp_sound (Q := Q) hC ht hH hr hc hK
        exact ⟨h2, wpOpIn_on ho (hw.trans h1) h3⟩
      · split at hr
        · rename_i T' h1
          cases hr
          obtain ⟨h2, h3⟩ := hc
          exact ⟨h3, wpOpIn_off ho (hw.trans h2) (hK ρ _ _ (Env.le.refl ρ) (putT_sound hC hH h1 (by simp [AV.den])))⟩
        · cases hr
      · split at hr
        · split at hr
          · rename_i r cs h1
            split at hr
            · rename_i T' h2
              have h34 : All acc ∧ (B = true → All cs) ∧ s = ⟨T', H, nx⟩ := by
                split at hr
                · cases hr; exact ⟨hc, fun _ => trivial, rfl⟩
                · cases hr; exact ⟨hc.2, hc.1, rfl⟩
              obtain ⟨h4, h3, rfl⟩ := h34
              refine ⟨h4, ?_⟩
              cases B with
              | true =>
                obtain ⟨_, v, h5, h6⟩ := pureOp_sound (hC.know hH.I) (fun c e => ht.1 (i, c) (look_mem e)) h1 (h3 rfl)
                exact wpOpIn_on ho hw (wpIn_ok (pureOp_nd h1) h6 (.inl rfl) (hK ρ _ _ (Env.le.refl ρ) (putT_sound hC hH h2 (by simpa [AV.den] using h5))))
              | false => exact wpOpIn_off ho hw (hK ρ _ _ (Env.le.refl ρ) (putT_sound hC hH h2 (by simp [AV.den])))
            · cases hr
          · cases hr
        · cases B with
          | true =>
            obtain ⟨h1, h2⟩ := runOp_sound (Q := Q) hC ht hH hr hc hK
            exact ⟨h1, wpOpIn_on ho hw h2⟩
          | false =>
            simp only at hr
            split at hr
            · rename_i T' h1
              cases hr
              exact ⟨hc, wpOpIn_off ho hw (hK ρ _ _ (Env.le.refl ρ) (putT_sound hC hH h1 (by simp [AV.den])))⟩
            · cases hr
theorem stepOp_sound (hC : CfgOk F cfg) {t : Told} (ht : t.ok F.P) (hH : Holds F T H nx ρ a w) {ops : Array Oper} {i : Nat} {o : Oper} (ho : ops[i]? = some o) {acc acc' : List Cd} {s : St} (hr : stepOp cfg t ops.toList i o T H nx acc = some (s, acc')) (hc : All acc')
    {K : Act → World → Prop} {Q : Exit → Act → World → Prop} (hK : ∀ ρ' a' w', Env.le ρ ρ' → Holds F s.T s.H s.nx ρ' a' w' → K a' w') {rd : Option Nat} : All acc ∧ wpOpIn (fen rd) 2 F.P ops Q i K a w := by
  unfold stepOp at hr
  split at hr
  · exact stepH_sound hC ht hH ho hr hc hK
  · exact stepH_sound hC ht hH ho hr hc hK
end
end Go.Sym

namespace Go.Sym
open Go.RowKit

def AllL : List (List Cd) → Prop
  | [] => True
  | l :: m => All l ∧ AllL m
def runOps (cfg : Cfg) (t : Told) (ops : List Oper) : Nat → List Oper → List (Nat × AV) → List (Nat × Chunk) → Nat → List (List Cd) → Option (St × List (List Cd))
  | _, [], T, H, nx, css => some (⟨T, H, nx⟩, css)
  | i, o :: rest, T, H, nx, css => match stepOp cfg t ops i o T H nx [] with
    | some (⟨T', H', nx'⟩, cs) => match cs with
      | [] => runOps cfg t ops (i + 1) rest T' H' nx' css
      | c :: cs' => runOps cfg t ops (i + 1) rest T' H' nx' ((c :: cs') :: css)
    | none => none

def HoldsS (F : Frm) (s : St) (ρ : Env) (a : Act) (w : World) : Prop := Holds F s.T s.H s.nx ρ a w

/-- What a run of code is known to lead to. -/
def Post (F : Frm) (Q : Exit → St → Prop) (e : Exit) (a : Act) (w : World) : Prop := ∃ s ρ, Q e s ∧ HoldsS F s ρ a w

structure LWP (F : Frm) (c : Code) (Q : Exit → St → Prop) (s : St) : Prop where
  out : ∀ ρ a w, HoldsS F s ρ a w → c.wpIn (fen F.rd) 2 F.P (Post F Q) a w

theorem runOps_acc {cfg : Cfg} {t : Told} {ops : List Oper} : ∀ {rest : List Oper} {i : Nat} {T : List (Nat × AV)} {H : List (Nat × Chunk)} {nx : Nat} {css css' : List (List Cd)} {s : St}, runOps cfg t ops i rest T H nx css = some (s, css') → AllL css' → AllL css
  | [], i, T, H, nx, css, css', s, h, hc => by cases h; exact hc
  | o :: rest, i, T, H, nx, css, css', s, h, hc => by
    simp only [runOps] at h
    split at h
    · split at h
      · exact runOps_acc h hc
      · exact (runOps_acc h hc).2
    · cases h

theorem runOps_sound {cfg : Cfg} {F : Frm} (hC : CfgOk F cfg) {t : Told} (ht : t.ok F.P) {ops : Array Oper} {Q : Exit → St → Prop} : ∀ {rest : List Oper} {i : Nat} {T : List (Nat × AV)} {H : List (Nat × Chunk)} {nx : Nat} {css css' : List (List Cd)} {s : St},
    (∀ j, rest[j]? = ops[i + j]?) → runOps cfg t ops.toList i rest T H nx css = some (s, css') → AllL css' → Q .normal s →
    ∀ {ρ : Env} {a : Act} {w : World}, Holds F T H nx ρ a w → wpOpsIn (fen F.rd) 2 F.P ops (Post F Q) (List.range' i rest.length) a w
  | [], i, T, H, nx, css, css', s, _, h, hc, hq, ρ, a, w, hH => by
    cases h
    simp only [List.length_nil, List.range'_zero, wpOpsIn]
    exact ⟨_, ρ, hq, hH⟩
  | o :: rest, i, T, H, nx, css, css', s, hr, h, hc, hq, ρ, a, w, hH => by
    simp only [runOps] at h
    split at h
    · rename_i T' H' nx' cs h1
      have ho : ops[i]? = some o := by have := hr 0; simpa using this.symm
      rw [List.length_cons, List.range'_succ, wpOpsIn_cons]
      have hr' : ∀ j, rest[j]? = ops[i + 1 + j]? := fun j => by have := hr (j + 1); simpa [Nat.add_assoc, Nat.add_comm 1 j] using this
      split at h
      · exact (stepOp_sound hC ht hH ho h1 trivial (fun ρ' a' w' _ hH' => runOps_sound hC ht hr' h hc hq hH')).2
      · have h2 := (runOps_acc h hc).1
        exact (stepOp_sound hC ht hH ho h1 h2 (fun ρ' a' w' _ hH' => runOps_sound hC ht hr' h hc hq hH')).2
    · cases h

section
variable {F : Frm} {Q : Exit → St → Prop} {s : St}

def thenS (next : St → Prop) (Q : Exit → St → Prop) : Exit → St → Prop
  | .normal, s => next s
  | e, s => Q e s
def inBlockS (id : Nat) (Q : Exit → St → Prop) : Exit → St → Prop
  | .exit id', s => match Nat.beq id' id with | true => Q .normal s | false => Q (.exit id') s
  | e, s => Q e s

theorem lwp_mono {c : Code} {Q' : Exit → St → Prop} (h : LWP F c Q s) (hq : ∀ e s, Q e s → Q' e s) : LWP F c Q' s :=
  ⟨fun ρ a w hs => wpIn_mono (h.out ρ a w hs) fun e a w ⟨s', ρ', h1, h2⟩ => ⟨s', ρ', hq e s' h1, h2⟩⟩

theorem lwp_seq {x y : Code} (h : ∀ K : St → Prop, (∀ s', LWP F y Q s' → K s') → LWP F x (thenS K Q) s) : LWP F (.seq x y) Q s := ⟨fun ρ a w hs =>
  wpIn_seq (wpIn_mono ((h (fun s' => LWP F y Q s') (fun _ h => h)).out ρ a w hs) fun e a' w' ⟨s', ρ', h1, h2⟩ => by
    cases e with
    | normal => exact h1.out ρ' a' w' h2
    | _ => exact ⟨s', ρ', h1, h2⟩)⟩
theorem gH {id : Nat} {c : Code} (h : LWP F c (inBlockS id Q) s) : LWP F (.block id c) Q s := ⟨fun ρ a w hs =>
  wpIn_block (wpIn_mono (h.out ρ a w hs) fun e a' w' ⟨s', ρ', h1, h2⟩ => by
    cases e with
    | exit id' =>
      simp only [Exit.inBlock]
      simp only [inBlockS] at h1
      split at h1
      · rename_i hb
        rw [if_pos (Nat.eq_of_beq_eq_true hb)]
        exact ⟨s', ρ', h1, h2⟩
      · rename_i hb
        rw [if_neg (fun e => by subst e; simp at hb)]
        exact ⟨s', ρ', h1, h2⟩
    | _ => exact ⟨s', ρ', h1, h2⟩)⟩
theorem gA {K : St → Prop} (h : K s) : thenS K Q .normal s := h
theorem gB {K : St → Prop} {id : Nat} (h : Q (.exit id) s) : thenS K Q (.exit id) s := h
theorem gC {K : St → Prop} (h : Q .ret s) : thenS K Q .ret s := h
theorem gD {id : Nat} (h : Q .normal s) : inBlockS id Q .normal s := h
theorem gE {id : Nat} (h : Q .ret s) : inBlockS id Q .ret s := h
theorem gF {id id' : Nat} (hb : Nat.beq id' id = true) (h : Q .normal s) : inBlockS id Q (.exit id') s := by simp only [inBlockS, hb]; exact h
theorem gG {id id' : Nat} (hb : Nat.beq id' id = false) (h : Q (.exit id') s) : inBlockS id Q (.exit id') s := by simp only [inBlockS, hb]; exact h
theorem gI (h : Q .normal s) : LWP F .skip Q s := ⟨fun ρ _ _ hs => wpIn_skip ⟨s, ρ, h, hs⟩⟩
theorem gL {l : Nat} (h : Q .normal s) : LWP F (.label l) Q s := ⟨fun ρ _ _ hs => wpIn_label ⟨s, ρ, h, hs⟩⟩
theorem gJ {id : Nat} (h : Q (.exit id) s) : LWP F (.exit id) Q s := ⟨fun ρ _ _ hs => wpIn_exit ⟨s, ρ, h, hs⟩⟩
theorem gK (h : Q .ret s) : LWP F .ret Q s := ⟨fun ρ _ _ hs => wpIn_ret ⟨s, ρ, h, hs⟩⟩
theorem lwp_cond {cfg : Cfg} (hC : CfgOk F cfg) {c : Operand} {x y : Code} {T : List (Nat × AV)} {H : List (Nat × Chunk)} {nx : Nat} {b : Bool} {cs : List Cd} (he : ev cfg T [] c = some (.lit (.bool b), cs)) (hcs : All cs) (ht : b = true → LWP F x Q ⟨T, H, nx⟩) (hf : b = false → LWP F y Q ⟨T, H, nx⟩) : LWP F (.cond c x y) Q ⟨T, H, nx⟩ := ⟨fun ρ a w hs => by
  obtain ⟨_, v, h1, h2⟩ := ev_sound (hC.know hs.I) he hcs
  simp only [AV.den, Option.some.injEq] at h1
  subst h1
  exact wpIn_cond_split h2 (fun e => (ht e).out ρ a w hs) (fun e => (hf e).out ρ a w hs)⟩
theorem lwp_region {cfg : Cfg} (hC : CfgOk F cfg) (t : Told) (ht : t.ok F.P) {id : Nat} {ops : Array Oper} {T : List (Nat × AV)} {H : List (Nat × Chunk)} {nx : Nat} {s' : St} {css : List (List Cd)} (h : runOps cfg t ops.toList 0 ops.toList T H nx [] = some (s', css)) (hc : AllL css) (hq : Q .normal s') : LWP F (.region id ops false) Q ⟨T, H, nx⟩ := ⟨fun ρ a w hs => by
  refine wpIn_region ?_
  have := runOps_sound hC ht (ops := ops) (Q := Q) (fun j => by simp) h hc hq hs
  rw [List.range_eq_range', ← Array.length_toList]
  exact this⟩

/-- No jump to a label. -/
def noGotoS (Q : Exit → St → Prop) : Exit → St → Prop
  | .goto _, _ => False
  | e, s => Q e s
theorem stepR_scope' {P : Program} {b : Frame} {a : Act} {w : World} {k : List Item} {cs : List Frame} {c : Code} : step P (lone (b.atR a (.code (.scope c) :: k)) cs w) = .next (lone (b.atR a (.code c :: .inScope c :: k)) cs w) :=
  step_lone_go (by simp [stepG, stepG.exec, Frame.atR])
theorem stepR_inScope' {P : Program} {b : Frame} {a : Act} {w : World} {k : List Item} {cs : List Frame} {c : Code} : step P (lone (b.atR a (.inScope c :: k)) cs w) = .next (lone (b.atR a k) cs w) :=
  step_lone_go (by simp [stepG, stepG.exec, Frame.atR])
theorem lwp_scope {c : Code} (h : LWP F c (noGotoS Q) s) : LWP F (.scope c) Q s := ⟨fun ρ a w hs b k cs hro hb hr => by
  obtain ⟨e, a₁, w₁, ⟨s', ρ', hq, hs'⟩, harr⟩ := h.out ρ a w hs b (.inScope c :: k) cs hro hb hr
  have s1 : StepsIn (Machine.fenced F.P (fen F.rd)) F.P (lone (b.atR a (.code (.scope c) :: k)) cs w) (lone (b.atR a (.code c :: .inScope c :: k)) cs w) := .one (fenced_calm hb hr rfl) stepR_scope'
  cases e with
  | normal => exact ⟨.normal, a₁, w₁, ⟨s', ρ', hq, hs'⟩, .of_steps s1 (StepsIn.trans harr (.one (fenced_calm hb hr rfl) stepR_inScope'))⟩
  | exit id => exact ⟨.exit id, a₁, w₁, ⟨s', ρ', hq, hs'⟩, .of_steps s1 ⟨fun k' hk => harr.1 k' (by simp [exitTo, hk]), fun hr hk => harr.2 hr (by simp [exitTo, hk])⟩⟩
  | goto l => exact hq.elim
  | ret => exact ⟨.ret, a₁, w₁, ⟨s', ρ', hq, hs'⟩, .of_steps s1 harr⟩
  | panic ch => exact ⟨.panic ch, a₁, w₁, ⟨s', ρ', hq, hs'⟩, .of_steps s1 harr⟩
  | outgrown => exact ⟨.outgrown, a₁, w₁, ⟨s', ρ', hq, hs'⟩, .of_steps s1 harr⟩⟩
/-- One state is another one, in other numbers. -/
def Sub (F : Frm) (s t : St) : Prop := ∀ ρ a w, HoldsS F s ρ a w → ∃ ρ', HoldsS F t ρ' a w
theorem Sub.refl (F : Frm) (s : St) : Sub F s s := fun ρ _ _ h => ⟨ρ, h⟩
theorem lwp_sub {c : Code} {t : St} (h : Sub F s t) (hl : LWP F c Q t) : LWP F c Q s := ⟨fun ρ a w hs => let ⟨ρ', h'⟩ := h ρ a w hs; hl.out ρ' a w h'⟩

theorem lwp_loop {ι : Type} (inv : ι → St) (ok : ι → Prop) (μ : ι → Nat) {c : Code} (i0 : ι) (h0 : ok i0 ∧ Sub F s (inv i0)) (round : ∀ i, ok i → LWP F c (thenS (fun s' => ∃ j, ok j ∧ μ j < μ i ∧ Sub F s' (inv j)) Q) (inv i)) : LWP F (.loop c) Q s := by
  refine ⟨fun ρ a w hs b k cs hro hb hr => ?_⟩
  have key : ∀ n i ρ a w, μ i = n → ok i → HoldsS F (inv i) ρ a w → ∃ e a' w', Post F Q e a' w' ∧ ArrivesIn (Machine.fenced F.P (fen F.rd)) F.P (lone (b.atR a (.code c :: .inLoop c :: k)) cs w) b k cs e a' w' := by
    intro n
    induction n using Nat.strongRecOn with
    | _ n ih =>
      intro i ρ a w hn hok hs
      obtain ⟨e, a₁, w₁, ⟨s', ρ', hq, hs'⟩, harr⟩ := (round i hok).out ρ a w hs b (.inLoop c :: k) cs hro hb hr
      cases e with
      | normal =>
        obtain ⟨j, h6, h7, h8⟩ := hq
        obtain ⟨ρ'', h9⟩ := h8 ρ' a₁ w₁ hs'
        obtain ⟨e₂, a₂, w₂, hq₂, harr₂⟩ := ih (μ j) (hn ▸ h7) j ρ'' a₁ w₁ rfl h6 h9
        exact ⟨e₂, a₂, w₂, hq₂, .of_steps (StepsIn.trans harr (.one (fenced_calm hb hr rfl) stepR_inLoop)) harr₂⟩
      | exit id => exact ⟨_, a₁, w₁, ⟨s', ρ', hq, hs'⟩, .pass (x := .inLoop c) rfl (fun _ _ => .inl (by simp)) harr⟩
      | goto l => exact ⟨_, a₁, w₁, ⟨s', ρ', hq, hs'⟩, .pass (x := .inLoop c) rfl (fun _ _ => .inl (by simp)) harr⟩
      | ret => exact ⟨_, a₁, w₁, ⟨s', ρ', hq, hs'⟩, .pass (x := .inLoop c) rfl (fun _ _ => .inl (by simp)) harr⟩
      | panic ch => exact ⟨_, a₁, w₁, ⟨s', ρ', hq, hs'⟩, .pass (x := .inLoop c) rfl (fun _ _ => .inl (by simp)) harr⟩
      | outgrown => exact ⟨_, a₁, w₁, ⟨s', ρ', hq, hs'⟩, .pass (x := .inLoop c) rfl (fun _ _ => .inl (by simp)) harr⟩
  obtain ⟨ρ', h⟩ := h0.2 ρ a w hs
  obtain ⟨e, a', w', hq, harr⟩ := key _ i0 ρ' a w rfl h0.1 h
  exact ⟨e, a', w', hq, .of_steps (.one (fenced_calm hb hr rfl) stepR_loop) harr⟩

/-- So many rounds, one by one. -/
def rounds (F : Frm) (c : Code) (Q : Exit → St → Prop) : Nat → St → Prop
  | 0, _ => False
  | n + 1, s => LWP F c (thenS (rounds F c Q n) Q) s
theorem lwp_rounds {c : Code} (n : Nat) (h : rounds F c Q n s) : LWP F (.loop c) Q s := by
  refine ⟨fun ρ a w hs b k cs hro hb hr => ?_⟩
  have key : ∀ n s ρ a w, rounds F c Q n s → HoldsS F s ρ a w → ∃ e a' w', Post F Q e a' w' ∧ ArrivesIn (Machine.fenced F.P (fen F.rd)) F.P (lone (b.atR a (.code c :: .inLoop c :: k)) cs w) b k cs e a' w' := by
    intro n
    induction n with
    | zero => intro s ρ a w h _; exact h.elim
    | succ n ih =>
      intro s ρ a w h hs
      obtain ⟨e, a₁, w₁, ⟨s', ρ', hq, hs'⟩, harr⟩ := h.out ρ a w hs b (.inLoop c :: k) cs hro hb hr
      cases e with
      | normal =>
        obtain ⟨e₂, a₂, w₂, hq₂, harr₂⟩ := ih s' ρ' a₁ w₁ hq hs'
        exact ⟨e₂, a₂, w₂, hq₂, .of_steps (StepsIn.trans harr (.one (fenced_calm hb hr rfl) stepR_inLoop)) harr₂⟩
      | exit id => exact ⟨_, a₁, w₁, ⟨s', ρ', hq, hs'⟩, .pass (x := .inLoop c) rfl (fun _ _ => .inl (by simp)) harr⟩
      | goto l => exact ⟨_, a₁, w₁, ⟨s', ρ', hq, hs'⟩, .pass (x := .inLoop c) rfl (fun _ _ => .inl (by simp)) harr⟩
      | ret => exact ⟨_, a₁, w₁, ⟨s', ρ', hq, hs'⟩, .pass (x := .inLoop c) rfl (fun _ _ => .inl (by simp)) harr⟩
      | panic ch => exact ⟨_, a₁, w₁, ⟨s', ρ', hq, hs'⟩, .pass (x := .inLoop c) rfl (fun _ _ => .inl (by simp)) harr⟩
      | outgrown => exact ⟨_, a₁, w₁, ⟨s', ρ', hq, hs'⟩, .pass (x := .inLoop c) rfl (fun _ _ => .inl (by simp)) harr⟩
  obtain ⟨e, a', w', hq, harr⟩ := key n s ρ a w h hs
  exact ⟨e, a', w', hq, .of_steps (.one (fenced_calm hb hr rfl) stepR_loop) harr⟩

end
end Go.Sym

namespace Go.Sym
open Go.RowKit

/-- The numbers of the arguments stay; others are below a bound. -/
def idOk (m nx : Nat) : Ren → Bool
  | [] => true
  | (c, x) :: l => match Nat.blt c m, x with
    | true, some i => match Nat.beq i c with | true => idOk m nx l | false => false
    | true, none => false
    | false, _ => match Nat.blt c nx with | true => idOk m nx l | false => false
theorem idOk_mem {m nx : Nat} (hm : m ≤ nx) : ∀ {σ : Ren}, idOk m nx σ = true → ∀ c x, look c σ = some x → c < nx ∧ (c < m → x = some c)
  | [], _, c, x, h => by cases h
  | (d, y) :: l, h, c, x, hl => by
    rw [look_cons] at hl
    simp only [idOk] at h
    split at h
    · rename_i i hb
      have hd : d < m := Nat.le_of_ble_eq_true hb
      split at h
      · rename_i hi
        cases Nat.eq_of_beq_eq_true hi
        split at hl
        · rename_i e; subst e; cases hl; exact ⟨by omega, fun _ => rfl⟩
        · exact idOk_mem hm h c x hl
      · cases h
    · cases h
    · rename_i hb
      split at h
      · rename_i hb2
        have hd : d < nx := Nat.le_of_ble_eq_true hb2
        split at hl
        · rename_i e; subst e
          refine ⟨hd, fun hc => ?_⟩
          have : Nat.blt c m = true := Nat.ble_eq_true_of_le hc
          rw [this] at hb; cases hb
        · exact idOk_mem hm h c x hl
      · cases h

/-- .. with the arguments' own places. -/
def subE (m : Nat) (σ : Ren) (ρ : Env) : Env := fun i => match look i σ with
  | some _ => renE σ ρ i
  | none => if i < m then ρ i else none
theorem subE_le (m : Nat) (σ : Ren) (ρ : Env) : Env.le (renE σ ρ) (subE m σ ρ) := by
  intro i L e
  unfold subE
  cases h : look i σ with
  | none => simp [renE, h] at e
  | some x => exact e
theorem subE_keep {m nx : Nat} (hm : m ≤ nx) {σ : Ren} (h : idOk m nx σ = true) (ρ : Env) {i : Nat} (hi : i < m) : subE m σ ρ i = ρ i := by
  unfold subE
  cases hl : look i σ with
  | none => simp [hi]
  | some x =>
    obtain ⟨_, h2⟩ := idOk_mem hm h i x hl
    rw [h2 hi] at hl
    simp [renE, hl]

def subS (m : Nat) (σ : Ren) (s t : St) : Option (List Cd) :=
  match cmpT σ s.T t.T [] with
  | some acc => match cmpH σ s.H t.H acc with
    | some acc1 => match loneH σ t.H t.H && idOk m t.nx σ && Nat.ble m t.nx with
      | true => some acc1
      | false => none
    | none => none
  | none => none
theorem subS_sound {F : Frm} {σ : Ren} {s t : St} {cs : List Cd} (h : subS F.m σ s t = some cs) (hc : All cs) : Sub F s t := by
  intro ρ a w hs
  unfold subS at h
  split at h
  case h_2 => cases h
  rename_i acc h1
  split at h
  case h_2 => cases h
  rename_i acc1 h2
  split at h
  case h_2 => cases h
  rename_i h3
  cases h
  simp only [Bool.and_eq_true] at h3
  obtain ⟨⟨h4, h5⟩, h6⟩ := h3
  have hm : F.m ≤ t.nx := Nat.le_of_ble_eq_true h6
  obtain ⟨hc1, hheap, hown⟩ := cmpH_sound hs.I.heap (fun _ _ e => e) h2 hc h4
  obtain ⟨_, ht⟩ := cmpT_sound (ρ := ρ) h1 hc1
  have hle := subE_le F.m σ ρ
  refine ⟨subE F.m σ ρ, hm, hs.I.size, hs.I.defers, fun k av e => ?_, hheap.mono hle, fun i L e => ?_, fun i hi => (subE_keep hm h5 ρ hi).trans (hs.I.keep i hi), fun g hg => ?_, hs.I.touch⟩
  · obtain ⟨b, e1, e2⟩ := ht k av (look_mem e)
    obtain ⟨v, e3, e4⟩ := hs.I.tm k b e1
    exact ⟨v, AV.den_mono hle _ _ (e2 v e3), e4⟩
  · unfold subE at e
    cases hl : look i σ with
    | some x => exact (idOk_mem hm h5 i x hl).1
    | none =>
      rw [hl] at e
      by_cases hi : i < F.m
      · show i < t.nx; omega
      · simp [hi] at e
  · obtain ⟨k, c, e, ho, hg⟩ := hg
    obtain ⟨_, _, i, d, _, _, _, f4, f5, f6⟩ := hown g ⟨k, c, e, ho, Chunk.occ_mono hle (hheap.holds k c e) hg⟩
    exact hs.I.fresh g ⟨i, d, f4, f5, f6⟩

/-- The values of the result variables. -/
def resL (cfg : Cfg) (T : List (Nat × AV)) (H : List (Nat × Chunk)) : List ResultVar → List Cd → Option (List AV × List Cd)
  | [], acc => some ([], acc)
  | .tmp t :: l, acc => match ev cfg T acc (.tmp t) with
    | some (a, acc1) => match resL cfg T H l acc1 with
      | some (m, acc2) => some (a :: m, acc2)
      | none => none
    | none => none
  | .cell t ty :: l, acc => match ev cfg T acc (.tmp t) with
    | some (x, acc1) => match loadA cfg.tys H ty x acc1 with
      | some (a, acc2) => match resL cfg T H l acc2 with
        | some (m, acc3) => some (a :: m, acc3)
        | none => none
      | none => none
    | none => none
theorem resL_acc {cfg : Cfg} {T : List (Nat × AV)} {H : List (Nat × Chunk)} : ∀ {l : List ResultVar} {acc acc' : List Cd} {m : List AV}, resL cfg T H l acc = some (m, acc') → All acc' → All acc
  | [], acc, acc', m, h, hc => by cases h; exact hc
  | .tmp t :: l, acc, acc', m, h, hc => by
    simp only [resL] at h
    split at h
    · rename_i a acc1 h1
      split at h
      · rename_i m' acc2 h2
        cases h
        exact ev_acc h1 (resL_acc h2 hc)
      · cases h
    · cases h
  | .cell t ty :: l, acc, acc', m, h, hc => by
    simp only [resL] at h
    split at h
    · rename_i x acc1 h1
      split at h
      · rename_i a acc2 h2
        split at h
        · rename_i m' acc3 h3
          cases h
          exact ev_acc h1 (loadA_acc h2 (resL_acc h3 hc))
        · cases h
      · cases h
    · cases h
def resOne (tmps : Array Value) : ResultVar → Sem Value
  | .tmp t => pure (tmps.getD t undef)
  | .cell x t => do loadVar t (← asAddr (tmps.getD x undef))
theorem results_eq (fn : Func) (tmps : Array Value) : results fn tmps = (do let vs ← fn.results.mapM (resOne tmps); pure (if h : vs.size = 1 then vs[0] else .tuple vs)) := by
  have : (fun x => match x with | .tmp t => pure (tmps.getD t undef) | .cell a t => do loadVar t (← asAddr (tmps.getD a undef)) : ResultVar → Sem Value) = resOne tmps := by
    funext x; cases x <;> rfl
  rw [← this]
  rfl
theorem resL_sound {cfg : Cfg} {P : Program} {T : List (Nat × AV)} {H : List (Nat × Chunk)} {ρ : Env} {a : Act} {w : World} (hk : Know cfg P (fun k => look k T) (fun k => look k H) ρ a w) : ∀ {l : List ResultVar} {acc acc' : List Cd} {m : List AV},
    resL cfg T H l acc = some (m, acc') → All acc' → ∃ vs, AV.denL ρ m = some vs ∧ (l.mapM (resOne a.tmps)).run P w = .ok vs w
  | [], acc, acc', m, h, hc => by cases h; exact ⟨[], rfl, rfl⟩
  | .tmp t :: l, acc, acc', m, h, hc => by
    simp only [resL] at h
    split at h
    · rename_i x acc1 h1
      split at h
      · rename_i m' acc2 h2
        cases h
        obtain ⟨vs, h3, h4⟩ := resL_sound hk h2 hc
        obtain ⟨_, v, h5, h6⟩ := ev_sound hk h1 (resL_acc h2 hc)
        refine ⟨v :: vs, by simp [AV.denL, h5, h3, listO], ?_⟩
        have h7 : a.tmps.getD t undef = v := h6
        simp only [List.mapM_cons, Sem.run_bind, resOne, Sem.run_pure, Result.andThen_ok, h4, h7]
      · cases h
    · cases h
  | .cell t ty :: l, acc, acc', m, h, hc => by
    simp only [resL] at h
    split at h
    · rename_i x acc1 h1
      split at h
      · rename_i b acc2 h2
        split at h
        · rename_i m' acc3 h3
          cases h
          obtain ⟨vs, h4, h5⟩ := resL_sound hk h3 hc
          have hc2 := resL_acc h3 hc
          obtain ⟨_, u, h6, h7⟩ := ev_sound hk h1 (loadA_acc h2 hc2)
          obtain ⟨_, v, h8, h9⟩ := loadA_sound hk.tv hk.heap h2 hc2 h6
          refine ⟨v :: vs, by simp [AV.denL, h8, h4, listO], ?_⟩
          have h10 : a.tmps.getD t undef = u := h7
          have hptr : ∃ ad, u = .pointer (some ad) := by
            cases x with
            | ptr i e sz j =>
              simp only [AV.den, Option.bind_eq_some_iff, Option.map_eq_some_iff] at h6
              obtain ⟨L, e1, ad, e2, rfl⟩ := h6
              exact ⟨_, rfl⟩
            | tb i x =>
              cases x with
              | row e n => simp [loadA] at h2
              | cell e k sz f =>
                simp only [AV.den, Option.bind_eq_some_iff, Tb.den, Option.map_eq_some_iff] at h6
                obtain ⟨L, e1, r, e2, ad, e3, rfl⟩ := h6
                exact ⟨_, rfl⟩
            | _ => simp [loadA] at h2
          obtain ⟨ad, rfl⟩ := hptr
          have h11 : (loadVar ty ad).run P w = .ok v w := by simpa [Instr.loadAt, Instr.sureAddr] using h9
          simp only [List.mapM_cons, Sem.run_bind, resOne, Sem.run_pure, Result.andThen_ok, h5, h10, asAddr, h11]
        · cases h
      · cases h
    · cases h

def tupOf : List AV → AV
  | [a] => a
  | l => .tup l

/-- What occupies nothing. -/
def noOcc : Chunk → Bool
  | .ro n _ _ => Nat.beq n 0
  | _ => false
theorem noOcc_not {c : Chunk} (h : noOcc c = true) (ρ : Env) (i g : Nat) : ¬ c.occ ρ i g := by
  cases c with
  | ro n sz c =>
    cases Nat.eq_of_beq_eq_true h
    rintro ⟨h0, _⟩
    simp at h0
  | _ => cases h
/-- What a call makes is owned alone where the call ends. -/
def ownAll (σ : Ren) (H : List (Nat × Chunk)) : List (Nat × Chunk) → Bool
  | [] => true
  | (c, _) :: l => match look c σ with
    | some (some i) => match look i H with
      | some d => match d.own || noOcc d with | true => ownAll σ H l | false => false
      | none => false
    | _ => ownAll σ H l
theorem ownAll_mem {σ : Ren} {H : List (Nat × Chunk)} : ∀ {l : List (Nat × Chunk)}, ownAll σ H l = true → ∀ k c i d, (k, c) ∈ l → look k σ = some (some i) → look i H = some d → (d.own || noOcc d) = true
  | [], _, k, c, i, d, hm, _, _ => by cases hm
  | (k', c') :: l, h, k, c, i, d, hm, hi, hd => by
    simp only [ownAll] at h
    split at h
    · rename_i i' h1
      split at h
      · rename_i d' h2
        split at h
        · rename_i h3
          rcases List.mem_cons.1 hm with e | hm
          · cases e
            rw [hi] at h1; cases h1
            rw [hd] at h2; cases h2
            exact h3
          · exact ownAll_mem h k c i d hm hi hd
        · cases h
      · cases h
    · rename_i h1
      rcases List.mem_cons.1 hm with e | hm
      · cases e; exact absurd hi (h1 i)
      · exact ownAll_mem h k c i d hm hi hd

/-- The end of a body: its result and what it leaves are those of a contract. -/
def endS (cfg : Cfg) (m : Nat) (σ : Ren) (rs : List ResultVar) (hout : List (Nat × Chunk)) (ret : AV) (s : St) : Option (List Cd) :=
  match resL cfg s.T s.H rs [] with
  | some (l, acc) => match cmpA σ ret (tupOf l) acc with
    | some acc1 => match cmpH σ s.H hout acc1 with
      | some acc2 => match loneH σ hout hout && idOk m s.nx σ && ownAll σ s.H hout with
        | true => some acc2
        | false => none
      | none => none
    | none => none
  | none => none

def EndPost (cfg : Cfg) (m : Nat) (rs : List ResultVar) (hout : List (Nat × Chunk)) (ret : AV) (e : Exit) (s : St) : Prop :=
  (e = .normal ∨ e = .ret) ∧ ∃ σ cs, endS cfg m σ rs hout ret s = some cs ∧ All cs

def enumT : List Nat → List AV → List (Nat × AV)
  | k :: ks, a :: l => (k, a) :: enumT ks l
  | _, _ => []
theorem enumT_look : ∀ (l : List AV) (n k i : Nat) (av : AV), look i (enumT (List.range' k n) l) = some av → k ≤ i ∧ l[i - k]? = some av
  | [], n, k, i, av, h => by cases n <;> simp [enumT, List.range'_succ, look] at h
  | a :: l, 0, k, i, av, h => by simp [enumT, look] at h
  | a :: l, n + 1, k, i, av, h => by
    rw [List.range'_succ] at h
    simp only [enumT] at h
    rw [look_cons] at h
    split at h
    · rename_i e; subst e; cases h; exact ⟨Nat.le_refl _, by simp⟩
    · obtain ⟨h1, h2⟩ := enumT_look l n (k + 1) i av h
      refine ⟨by omega, ?_⟩
      rw [show i - k = (i - (k + 1)) + 1 by omega]
      simpa using h2

def allKeys (m : Nat) : List (Nat × Chunk) → Bool
  | [] => true
  | (c, _) :: l => match Nat.blt c m with | true => allKeys m l | false => false
theorem allKeys_mem {m : Nat} : ∀ {l : List (Nat × Chunk)}, allKeys m l = true → ∀ c d, (c, d) ∈ l → c < m
  | [], _, c, d, h => by cases h
  | (k, e) :: l, h, c, d, hm => by
    simp only [allKeys] at h
    split at h
    · rename_i hb
      rcases List.mem_cons.1 hm with e | hm
      · cases e; exact Nat.le_of_ble_eq_true hb
      · exact allKeys_mem h c d hm
    · cases h

theorem leaves_marks {n : Nat} {P : Program} {fn : Func} {tmps : Array Value} {R : Ending → World → Prop} : ∀ (rs : List Nat) (w : World), rs.Nodup → (∀ r ∈ rs, w.heap[r]? = some (Obj.deferred (some []))) →
    (∀ w' : World, (∀ g, g ∉ rs → w'.heap[g]? = w.heap[g]?) → w'.heap.size = w.heap.size → w'.os = w.os → w'.tape = w.tape → w'.output = w.output → ∃ v, (results fn tmps).run P w' = .ok v w' ∧ R (.returned v) w') →
    LeavesInM Fence.wide n P fn tmps R (rs.map mark) .returning w
  | [], w, _, _, h => h w (fun _ _ => rfl) rfl rfl rfl rfl
  | r :: rs, w, hn, hr, h => by
    obtain ⟨h1, h2⟩ := List.nodup_cons.1 hn
    have hr0 := hr r List.mem_cons_self
    have hlt : r < w.heap.size := (Array.getElem?_eq_some_iff.1 hr0).1
    refine ⟨by simp, .inl ⟨r, _, rfl, run_takeDeferred hr0, ?_⟩⟩
    refine leaves_marks rs _ h2 (fun q hq => ?_) fun w' e1 e2 e3 e4 e5 => h w' (fun g hg => ?_) (e2.trans (by simp [World.putObj])) e3 e4 e5
    · rw [World.putObj_heap_other (by rintro rfl; exact h1 hq)]
      exact hr q (List.mem_cons_of_mem _ hq)
    · rw [e1 g (fun hm => hg (List.mem_cons_of_mem _ hm)), World.putObj_heap_other (by rintro rfl; exact hg List.mem_cons_self)]

theorem spec_of_body {P : Program} {f : FuncId} {fn : Func} {c : Code} {tys : List (Nat × TyI)} {gl : List (Nat × Nat)} {hin : List (Nat × Chunk)} {args : List AV} {hout : List (Nat × Chunk)} {ret : AV} (m : Nat)
    (hf : P.funcs[f]? = some fn) (hcall : callable fn = true) (hb : fn.body = some c) (tv : TValid P tys) (hm : allKeys m hin = true) (hn : args.length ≤ fn.ntmps) (hg : ∀ g i, (g, i) ∈ gl → i < m)
    (hbody : ∀ F : Frm, F.P = P → F.m = m → CfgOk F ⟨fn.ntmps, tys, gl⟩ → F.rd = none → forceK (enumT nums args) [] fun T => LWP F c (EndPost ⟨fn.ntmps, tys, gl⟩ m fn.results.toList hout ret) ⟨T, hin, m⟩) : FnSpec P f gl hin args hout ret := by
  refine ⟨⟨fn, hf, hcall⟩, fun ρ w vs hdom hgl hheap hden => ?_⟩
  let F : Frm := ⟨P, fn.ntmps, m, ρ, w, Owned ρ fun k => look k hin, none⟩
  have hC : CfgOk F ⟨fn.ntmps, tys, gl⟩ := ⟨tv, rfl, fun g i hm' => ⟨hg g i hm', hgl g i hm'⟩⟩
  have hwp := hbody F rfl rfl hC rfl
  rw [force_eq] at hwp
  have hlen := denL_len hden
  refine (callsIn_wide (n := 2)).1 (callsIn_of_wp_marks hf hb trivial (wpIn_mono (hwp.out ρ _ w ⟨Nat.le_refl _, ⟨?_, Marks.nil _ _, fun k av e => ?_, hheap, fun i L e => ?_, fun i _ => rfl, fun g hg => .inr hg, Touch.refl _ _⟩⟩) ?_) rfl)
  · show _ = fn.ntmps
    simp only [Array.size_append, List.size_toArray, Array.size_replicate]; omega
  · obtain ⟨_, h2⟩ := enumT_look args 300 0 k av (by rw [← List.range_eq_range', ← nums_eq]; exact e)
    obtain ⟨v, h3, h4⟩ := denL_at hden h2
    refine ⟨v, h3, ?_⟩
    have hk : k < vs.length := (List.getElem?_eq_some_iff.1 h4).1
    rw [Array.getElem?_append_left (by simpa using hk)]
    simpa using h4
  · obtain ⟨d, hd⟩ := Option.isSome_iff_exists.1 (hdom i L e)
    exact allKeys_mem hm i d (look_mem hd)
  · rintro e a0 w0 ⟨s', ρ', ⟨he, σ, cs, hend, hcs⟩, hs0⟩
    obtain ⟨rs, hds, hnd, hrs⟩ := hs0.I.defers
    have hfin : LeavesInM Fence.wide 2 P fn a0.tmps (CallPost hin hout ret ρ w) a0.defers .returning w0 := ?_
    · rcases he with rfl | rfl
      · exact hfin
      · exact hfin
    rw [hds]
    refine leaves_marks rs w0 hnd (fun r hr => (hrs r hr).2) fun w' hkk hsz hos htp hou => ?_
    obtain ⟨a', ha'⟩ : ∃ a' : Act, a' = { a0 with defers := [] } := ⟨_, rfl⟩
    have hat : a'.tmps = a0.tmps := by rw [ha']
    rw [← hat]
    have hs' : HoldsS F s' ρ' a' w' := ⟨hs0.m, by rw [hat]; exact hs0.I.size, by rw [ha']; exact Marks.nil _ _, by rw [hat]; exact hs0.I.tm,
      hs0.I.heap.ext fun g ⟨i, c, e, hg⟩ => hkk g fun hm => Chunk.holds_odd (hs0.I.heap.holds i c e) hg _ (hrs g hm).2,
      hs0.I.dom, hs0.I.keep, hs0.I.fresh, ⟨hos.trans hs0.I.touch.os, htp.trans hs0.I.touch.tape, hou.trans hs0.I.touch.output, by rw [hsz]; exact hs0.I.touch.size,
        fun k hk hn => (hkk k fun hm => by have := (hrs k hm).1; omega).trans (hs0.I.touch.block k hk hn)⟩⟩
    unfold endS at hend
    split at hend
    case h_2 => cases hend
    rename_i l acc h1
    split at hend
    case h_2 => cases hend
    rename_i acc1 h2
    split at hend
    case h_2 => cases hend
    rename_i acc2 h3
    split at hend
    case h_2 => cases hend
    rename_i h4
    cases hend
    simp only [Bool.and_eq_true] at h4
    obtain ⟨⟨h5, h6⟩, h7⟩ := h4
    have hk := hC.know hs'.I
    have hmle : m ≤ s'.nx := hs'.m
    obtain ⟨hc1, hheap', _⟩ := cmpH_sound hs'.I.heap (fun _ _ e => e) h3 hcs h5
    have hall := (cmpH_all hs'.I.heap (fun _ _ e => e) h3 hcs).2
    obtain ⟨hc0, hret⟩ := cmpA_sound (ρ := ρ') h2 hc1
    obtain ⟨us, h8, h9⟩ := resL_sound hk h1 hc0
    have hle := subE_le m σ ρ'
    have hres : ∃ v, (tupOf l).den ρ' = some v ∧ (results fn a'.tmps).run P w' = .ok v w' := by
      have h10 : (results fn a'.tmps).run P w' = .ok (if h : us.toArray.size = 1 then us.toArray[0] else .tuple us.toArray) w' := by
        rw [results_eq, Array.mapM_eq_mapM_toList]
        simp only [Sem.run_bind, Sem.run_map]
        have h9' : (fn.results.toList.mapM (resOne a'.tmps)).run P w' = .ok us w' := h9
        rw [h9']
        rfl
      have hll := denL_len h8
      match l, us, h8, h10, hll with
      | [], [], _, h10, _ => exact ⟨.tuple #[], by simp [tupOf, AV.den, AV.denL], by simpa using h10⟩
      | [x], [u], h8, h10, _ =>
        refine ⟨u, ?_, by simpa using h10⟩
        simp only [AV.denL] at h8
        obtain ⟨u', us', e1, e2, e3⟩ := listO_some h8
        cases e3
        exact e1
      | x :: y :: l, u :: u' :: us, h8, h10, _ =>
        refine ⟨.tuple (u :: u' :: us).toArray, by simp only [tupOf, AV.den, h8]; rfl, by simpa using h10⟩
    obtain ⟨v, h11, h12⟩ := hres
    have hpost : CallPost hin hout ret ρ w (.returned v) w' := by
      refine ⟨subE m σ ρ', v, rfl, AV.den_mono hle _ _ (hret v h11), fun i L e => ?_, hheap'.mono hle, fun g hg => ?_, hs'.I.touch⟩
      · obtain ⟨d, hd⟩ := Option.isSome_iff_exists.1 (hdom i L e)
        have hi : i < m := allKeys_mem hm i d (look_mem hd)
        rw [subE_keep hmle h6 ρ' hi, hs'.I.keep i hi]
        exact e
      · obtain ⟨k, c', e, hg⟩ := hg
        have hg' := Chunk.occ_mono hle (hheap'.holds k c' e) hg
        obtain ⟨_, h13 | ⟨h13, _⟩⟩ := hall k c' (look_mem e)
        · obtain ⟨i, d, f1, f2, f3, _⟩ := h13
          have h14 := ownAll_mem h7 k c' i d (look_mem e) f1 f2
          rcases Bool.or_eq_true_iff.1 h14 with h15 | h15
          · exact hs'.I.fresh g ⟨i, d, f2, h15, f3 g hg'⟩
          · exact absurd (f3 g hg') (noOcc_not h15 _ _ _)
        · exact absurd hg' (h13 g)
    exact ⟨v, h12, hpost⟩

theorem told0 (P : Program) (hs : List (Nat × HintX)) : (Told.mk hs [] []).ok P := ⟨fun _ h => (by cases h), fun _ h => (by cases h)⟩
theorem gM {cfg : Cfg} {F : Frm} (hC : CfgOk F cfg) {id : Nat} {ops : Array Oper} {T : List (Nat × AV)} {H : List (Nat × Chunk)} {nx : Nat} {s' : St} {css : List (List Cd)} {Q : Exit → St → Prop} (h : runOps cfg ⟨[], [], []⟩ ops.toList 0 ops.toList T H nx [] = some (s', css)) (hc : AllL css) (hq : Q .normal s') : LWP F (.region id ops false) Q ⟨T, H, nx⟩ :=
  lwp_region hC ⟨[], [], []⟩ (told0 _ _) h hc hq
theorem told1 (P : Program) {hs : List (Nat × HintX)} {calls : List (Nat × Inst)} (h : ∀ p ∈ calls, p.2.ok P) : (Told.mk hs [] calls).ok P := ⟨fun _ h => (by cases h), h⟩

theorem end_intro {cfg : Cfg} {m : Nat} {rs : List ResultVar} {hout : List (Nat × Chunk)} {ret : AV} {e : Exit} {s : St} {cs : List Cd} (he : e = .normal ∨ e = .ret) (σ : Ren) (h : endS cfg m σ rs hout ret s = some cs) (hc : All cs) : EndPost cfg m rs hout ret e s := ⟨he, σ, cs, h, hc⟩
theorem calls_nil {P : Program} : ∀ p ∈ ([] : List (Nat × Inst)), p.2.ok P := fun _ h => by cases h
theorem calls_cons {P : Program} {k : Nat} {I : Inst} {l : List (Nat × Inst)} (h : I.ok P) (hl : ∀ p ∈ l, p.2.ok P) : ∀ p ∈ (k, I) :: l, p.2.ok P := fun p hp => by
  rcases List.mem_cons.1 hp with rfl | hp
  · exact h
  · exact hl p hp

theorem sub_intro {F : Frm} {m : Nat} (hm : F.m = m) (σ : Ren) {s t : St} {cs : List Cd} (h : subS m σ s t = some cs) (hc : All cs) : Sub F s t := subS_sound (by rw [hm]; exact h) hc

abbrev i64 (x : Int) : AV := .lit (.int .i64 x)
abbrev bl (x : Bool) : AV := .lit (.bool x)

end Go.Sym

namespace Go.Sym
open Go.RowKit

/-- What a stable operation gives. -/
structure Res where
  i : Nat
  dst : Option Tmp
  av : AV
  N : List (Nat × Chunk)
  lo : Nat
  hi : Nat

def bitAt (c i : Nat) : Bool := Nat.beq (Nat.land (Nat.shiftRight c i) 1) 1
theorem bitAt_eq (c i : Nat) : bitAt c i = c.testBit i := by
  unfold bitAt
  rw [Nat.testBit]
  have h : Nat.land (Nat.shiftRight c i) 1 = (c >>> i) % 2 := by
    show (c >>> i) &&& 1 = _
    rw [Nat.and_one_is_mod]
  rw [h, Nat.one_and_eq_mod_two]
  have := Nat.mod_two_eq_zero_or_one (c >>> i)
  rcases this with h | h <;> simp [h] <;> rfl

def tE (D : Nat → Bool) : List Res → List (Nat × AV)
  | [] => []
  | ⟨i, dst, av, _, _, _⟩ :: l => match D i with
    | true => match dst with | some d => (d, av) :: tE D l | none => tE D l
    | false => tE D l
def hE (D : Nat → Bool) : List Res → List (Nat × Chunk)
  | [] => []
  | ⟨i, _, _, N, _, _⟩ :: l => match D i with | true => N ++ hE D l | false => hE D l

/-- A stable operation that is run. -/
def runE (cfg : Cfg) (t : Told) (i : Nat) (h : HintX) (o : Oper) (T : List (Nat × AV)) (H : List (Nat × Chunk)) (nx : Nat) (acc : List Cd) : Option (AV × List (Nat × Chunk) × Nat × List Cd) :=
  match kindOf o.op with
  | 0 => match pureOp cfg T H h.i1 (look i t.cu) o acc with
    | some (r, acc1) => match force1 h.b r acc1 with
      | (r', acc2) => some (r', [], nx, acc2)
    | none => none
  | 1 => match extOp cfg T H nx h.toHint o acc with
    | some (r, c, acc1) => match nxt nx with
      | some nx' => some (r, [(nx, c)], nx', acc1)
      | none => none
    | none => none
  | 2 => match appE cfg T H nx h.toHint o acc with
    | some (r, c, acc1) => match nxt nx with
      | some nx' => some (r, [(nx, c)], nx', acc1)
      | none => none
    | none => none
  | 3 => match look i t.calls with
    | some I => match callOp cfg T H nx I o acc with
      | some (r, N, [], nx', acc1) => some (r, N, nx', acc1)
      | _ => none
    | none => none
  | _ => none

def guardedE (cfg : Cfg) (t : Told) (i : Nat) (h : HintX) (B : Bool) (o : Oper) (T : List (Nat × AV)) (H : List (Nat × Chunk)) (nx : Nat) (acc : List Cd) : Option (AV × List (Nat × Chunk) × Nat × List Cd) :=
  match h.g with
  | some true => runE cfg t i h o T H nx (cd (B = true) :: acc)
  | some false => some (.lit undef, [], nx, cd (B = false) :: acc)
  | none => match Nat.beq (kindOf o.op) 0 with
    | true => match pureOp cfg T H h.i1 (look i t.cu) o [] with
      | some (r, cs) => match cs with
        | [] => some (.cnd B r, [], nx, acc)
        | c :: cs' => some (.cnd B r, [], nx, cp (B = true → All (c :: cs')) :: acc)
      | none => none
    | false => match B with
      | true => runE cfg t i h o T H nx acc
      | false => some (.lit undef, [], nx, acc)
def stepE1 (cfg : Cfg) (t : Told) (ops : List Oper) (i : Nat) (h : HintX) (o : Oper) (T : List (Nat × AV)) (H : List (Nat × Chunk)) (nx : Nat) (acc : List Cd) : Option (AV × List (Nat × Chunk) × Nat × List Cd) :=
  match o.guard with
  | none => runE cfg t i h o T H nx acc
  | some (j, want) => match guardOf ops T j want with
    | none => none
    | some B => guardedE cfg t i h B o T H nx acc
def stepE (cfg : Cfg) (t : Told) (ops : List Oper) (i : Nat) (o : Oper) (T : List (Nat × AV)) (H : List (Nat × Chunk)) (nx : Nat) (acc : List Cd) : Option (AV × List (Nat × Chunk) × Nat × List Cd) :=
  match look i t.hs with
  | some h => stepE1 cfg t ops i h o T H nx acc
  | none => stepE1 cfg t ops i {} o T H nx acc

section
variable {cfg : Cfg} {P : Program} {T : List (Nat × AV)} {H : List (Nat × Chunk)} {ρ : Env} {a : Act} {w : World}

theorem newC_refl (V : Nat → Prop) (H : HMap) : NewC V ρ ρ H (fun k => look k []) w w :=
  ⟨Env.le.refl _, fun _ _ => rfl, fun i c e => (by cases e), Below.refl _ _, fun i c e => (by cases e), fun i c e => (by cases e), fun i c e => (by cases e)⟩

theorem runE_sound (hk : Know cfg P (fun k => look k T) (fun k => look k H) ρ a w) {t : Told} (ht : t.ok P) {i : Nat} {h : HintX} {o : Oper} {nx nx' : Nat} {acc acc' : List Cd} {r : AV} {N : List (Nat × Chunk)}
    (hr : runE cfg t i h o T H nx acc = some (r, N, nx', acc')) (hc : All acc') (hfree : ∀ k, nx ≤ k → k < nx' → ρ k = none) (hN : ∀ k c, look k N = some c → nx ≤ k ∧ k < nx') {K : Act → World → Prop} {Q : Exit → Act → World → Prop}
    (hK : ∀ v w' ρ', NewC (fun k => nx ≤ k ∧ k < nx') ρ ρ' (fun k => look k H) (fun k => look k N) w w' → r.den ρ' = some v → K (a.put o.dst v) w') {rd : Option Nat} : All acc ∧ o.wpIn (fen rd) 2 P a w K Q := by
  have nd : kindOf o.op ≠ 0 → ∀ c, o.op ≠ .defer c := fun h c e => h (by rw [e]; rfl)
  unfold runE at hr
  split at hr
  · split at hr
    · rename_i r1 acc1 h1
      split at hr
      rename_i r2 acc2 h2
      cases hr
      obtain ⟨hc1, rfl⟩ := force1_sound h2 hc
      obtain ⟨hc0, v, h4, h5⟩ := pureOp_sound hk (fun c e => ht.1 (i, c) (look_mem e)) h1 hc1
      exact ⟨hc0, wpIn_ok (pureOp_nd h1) h5 (.inl rfl) (hK v w ρ (newC_refl _ _) h4)⟩
    · cases hr
  · rename_i hkind
    split at hr
    · rename_i r1 c acc1 h1
      split at hr
      · rename_i nx1 hnx
        cases nxt_eq hnx
        cases hr
        obtain ⟨hc0, v, w', L, h3, h4, h5⟩ := extOp_sound hk (hfree nx (Nat.le_refl _) (by omega)) h1 hc
        refine ⟨hc0, wpIn_ok (nd (by omega)) h3 (.inl rfl) ?_⟩
        have hV : (fun k => nx ≤ k ∧ k < nx + 1) = (· = nx) := by funext k; simp; omega
        have hM : (fun k => look k [(nx, c)]) = oneMap nx c := by funext k; rw [look_cons]; rfl
        rw [hV, hM] at hK
        exact hK v w' _ h4 h5
      · cases hr
    · cases hr
  · rename_i hkind
    split at hr
    · rename_i r1 c acc1 h1
      split at hr
      · rename_i nx1 hnx
        cases nxt_eq hnx
        cases hr
        obtain ⟨hc0, v, w', L, h3, h4, h5⟩ := appE_sound hk (hfree nx (Nat.le_refl _) (by omega)) h1 hc
        refine ⟨hc0, wpIn_ok (nd (by omega)) h3 (.inl rfl) ?_⟩
        have hV : (fun k => nx ≤ k ∧ k < nx + 1) = (· = nx) := by funext k; simp; omega
        have hM : (fun k => look k [(nx, c)]) = oneMap nx c := by funext k; rw [look_cons]; rfl
        rw [hV, hM] at hK
        exact hK v w' _ h4 h5
      · cases hr
    · cases hr
  · split at hr
    · rename_i I h1
      split at hr
      · rename_i r1 N1 nx1 acc1 h2
        cases hr
        refine callOp_sound hk (ht.2 (i, I) (look_mem h1)) h2 hc fun _ v w' ρ'' hg hv => ?_
        refine hK v w' ρ'' ⟨fun k L e => ?_, fun k hk' => hg.env k hk', hN, hg.touch.below (by rintro g _ ⟨j, d, hj, _⟩; cases hj), hg.holds, fun k c e g ho => ?_, hg.apart⟩ hv
        · by_cases hk' : nx ≤ k ∧ k < nx'
          · rw [hfree k hk'.1 hk'.2] at e; cases e
          · rw [hg.env k hk']; exact e
        · rcases hg.fresh k c e g ho with h3 | ⟨j, d, hj, _⟩
          · exact .inl h3
          · cases hj
      · cases hr
    · cases hr
  · cases hr

theorem guardOf_sound' {T : List (Nat × AV)} (htm : ∀ k av, look k T = some av → ∃ v, av.den ρ = some v ∧ a.tmps[k]? = some v) {ops : Array Oper} {j : Nat} {want B : Bool} {o : Oper} (hg : o.guard = some (j, want)) (h : guardOf ops.toList T j want = some B) : Region.wanted o (yielded ops a.tmps) = B := by
  unfold guardOf at h
  split at h
  · rename_i oj h1
    rw [nth_eq, Array.getElem?_toList] at h1
    split at h
    · rename_i d h2
      have hy : ∀ v, a.tmps[d]? = some v → yielded ops a.tmps j = (match v with | .bool b => some b | _ => none) := by
        intro v hv
        simp only [yielded, h1, Option.bind_some, h2, hv]
        cases v <;> rfl
      have key : ∀ x, yielded ops a.tmps j = x → Region.wanted o (yielded ops a.tmps) = (x == some want) := by
        intro x e
        simp only [Region.wanted, hg, e]
      split at h
      · rename_i b h3
        obtain ⟨v, h4, h5⟩ := htm d _ h3
        simp only [AV.den, Option.some.injEq] at h4
        subst h4
        rw [key _ (hy _ h5)]
        split at h <;> (simp only [Option.some.injEq] at h; subst h) <;> cases b <;> rfl
      · rename_i b' b h3
        obtain ⟨v, h4, h5⟩ := htm d _ h3
        cases b' with
        | true =>
          simp only [AV.den, Option.some.injEq] at h4
          subst h4
          rw [key _ (hy _ h5)]
          split at h <;> (simp only [Option.some.injEq] at h; subst h) <;> cases b <;> rfl
        | false =>
          simp only [AV.den, Option.some.injEq] at h4
          subst h4
          rw [key _ (hy _ h5)]
          split at h <;> (simp only [Option.some.injEq] at h; subst h) <;> cases b <;> rfl
      · rename_i vs h3
        obtain ⟨v, h4, h5⟩ := htm d _ h3
        simp only [AV.den, Option.some.injEq] at h4
        subst h4
        cases h
        rw [key _ (hy _ h5)]
        cases want <;> rfl
      · cases h
    · cases h
  · cases h

theorem stepE_sound (hk : Know cfg P (fun k => look k T) (fun k => look k H) ρ a w) {t : Told} (ht : t.ok P) {ops : Array Oper} {i : Nat} {o : Oper} (ho : ops[i]? = some o) {nx nx' : Nat} {acc acc' : List Cd} {r : AV} {N : List (Nat × Chunk)}
    (hr : stepE cfg t ops.toList i o T H nx acc = some (r, N, nx', acc')) (hc : All acc') (hfree : ∀ k, nx ≤ k → k < nx' → ρ k = none) (hN : ∀ k c, look k N = some c → nx ≤ k ∧ k < nx') {K : Act → World → Prop} {Q : Exit → Act → World → Prop}
    (hK : ∀ v w' ρ', NewC (fun k => nx ≤ k ∧ k < nx') ρ ρ' (fun k => look k H) (fun k => look k N) w w' → r.den ρ' = some v → K (a.put o.dst v) w') {rd : Option Nat} : wpOpIn (fen rd) 2 P ops Q i K a w := by
  have key : ∀ {h : HintX}, stepE1 cfg t ops.toList i h o T H nx acc = some (r, N, nx', acc') → wpOpIn (fen rd) 2 P ops Q i K a w := by
    intro h hr
    unfold stepE1 at hr
    split at hr
    · rename_i hg
      have hw : Region.wanted o (yielded ops a.tmps) = true := by simp [Region.wanted, hg]
      exact wpOpIn_on ho hw (runE_sound (Q := Q) hk ht hr hc hfree hN hK).2
    · rename_i j want hg
      split at hr
      · cases hr
      · rename_i B hB
        have hw := guardOf_sound' hk.tm hg hB
        unfold guardedE at hr
        split at hr
        · obtain ⟨⟨h1, h2⟩, h3⟩ := runE_sound (Q := Q) hk ht hr hc hfree hN hK
          exact wpOpIn_on ho (hw.trans h1) h3
        · cases hr
          obtain ⟨h2, h3⟩ := hc
          exact wpOpIn_off ho (hw.trans h2) (hK undef w ρ (newC_refl _ _) (by simp [AV.den]))
        · split at hr
          · split at hr
            · rename_i r1 cs h1
              have h34 : (B = true → All cs) ∧ r = .cnd B r1 ∧ N = [] ∧ nx' = nx := by
                split at hr
                · cases hr; exact ⟨fun _ => trivial, rfl, rfl, rfl⟩
                · cases hr; exact ⟨hc.1, rfl, rfl, rfl⟩
              obtain ⟨h3, rfl, rfl, rfl⟩ := h34
              cases B with
              | true =>
                obtain ⟨_, v, h5, h6⟩ := pureOp_sound hk (fun c e => ht.1 (i, c) (look_mem e)) h1 (h3 rfl)
                exact wpOpIn_on ho hw (wpIn_ok (pureOp_nd h1) h6 (.inl rfl) (hK v w ρ (newC_refl _ _) (by simpa [AV.den] using h5)))
              | false => exact wpOpIn_off ho hw (hK undef w ρ (newC_refl _ _) (by simp [AV.den]))
            · cases hr
          · cases B with
            | true =>
              exact wpOpIn_on ho hw (runE_sound (Q := Q) hk ht hr hc hfree hN hK).2
            | false =>
              simp only at hr
              cases hr
              exact wpOpIn_off ho hw (hK undef w ρ (newC_refl _ _) (by simp [AV.den]))
  unfold stepE at hr
  split at hr
  · exact key hr
  · exact key hr


theorem tE_look {D : Nat → Bool} {k : Nat} {v : AV} : ∀ {R : List Res}, look k (tE D R) = some v → ∃ r ∈ R, D r.i = true ∧ r.dst = some k ∧ r.av = v
  | [], h => by cases h
  | r :: R, h => by
    simp only [tE] at h
    split at h
    · rename_i hD
      split at h
      · rename_i d hd
        rw [look_cons] at h
        split at h
        · rename_i e; subst e; cases h; exact ⟨r, List.mem_cons_self, hD, hd, rfl⟩
        · obtain ⟨r', h1, h2⟩ := tE_look h; exact ⟨r', List.mem_cons_of_mem _ h1, h2⟩
      · obtain ⟨r', h1, h2⟩ := tE_look h; exact ⟨r', List.mem_cons_of_mem _ h1, h2⟩
    · obtain ⟨r', h1, h2⟩ := tE_look h; exact ⟨r', List.mem_cons_of_mem _ h1, h2⟩
theorem hE_look {D : Nat → Bool} {k : Nat} {c : Chunk} : ∀ {R : List Res}, look k (hE D R) = some c → ∃ r ∈ R, D r.i = true ∧ look k r.N = some c
  | [], h => by cases h
  | r :: R, h => by
    simp only [hE] at h
    split at h
    · rename_i hD
      rw [look_append] at h
      cases hn : look k r.N with
      | some d => rw [hn] at h; cases h; exact ⟨r, List.mem_cons_self, hD, hn⟩
      | none => rw [hn] at h; obtain ⟨r', h1, h2⟩ := hE_look (by simpa using h); exact ⟨r', List.mem_cons_of_mem _ h1, h2⟩
    · obtain ⟨r', h1, h2⟩ := hE_look h; exact ⟨r', List.mem_cons_of_mem _ h1, h2⟩

def nxOf (nx0 : Nat) : List Res → Nat
  | [] => nx0
  | r :: _ => r.hi

/-- What the results of the stable operations are. -/
def Good (cfg : Cfg) (t : Told) (ops : Array Oper) (cl : List Nat) (T0 : List (Nat × AV)) (H0 : List (Nat × Chunk)) (nx0 : Nat) : List Res → Prop
  | [] => True
  | r :: R => Good cfg t ops cl T0 H0 nx0 R ∧ r.i = R.length ∧ r.lo = nxOf nx0 R ∧ r.lo ≤ r.hi ∧ (∀ k c, look k r.N = some c → r.lo ≤ k ∧ k < r.hi) ∧
    (∀ d, r.dst = some d → d < cfg.nt ∧ look d T0 = none ∧ ∀ r' ∈ R, r'.dst ≠ some d) ∧
    ∃ o c cs, ops[r.i]? = some o ∧ r.dst = o.dst ∧ nth cl r.i = some c ∧ stepE cfg t ops.toList r.i o (tE (bitAt c) R ++ T0) (hE (bitAt c) R ++ H0) r.lo [] = some (r.av, r.N, r.hi, cs) ∧ All cs

variable {t : Told} {ops : Array Oper} {cl : List Nat} {T0 : List (Nat × AV)} {H0 : List (Nat × Chunk)} {nx0 : Nat}

theorem Good.ge : ∀ {R : List Res}, Good cfg t ops cl T0 H0 nx0 R → nx0 ≤ nxOf nx0 R ∧ ∀ r ∈ R, nx0 ≤ r.lo ∧ r.hi ≤ nxOf nx0 R ∧ r.i < R.length
  | [], _ => ⟨Nat.le_refl _, fun r h => by cases h⟩
  | r :: R, ⟨h, h1, h2, h3, _⟩ => by
    obtain ⟨a1, a2⟩ := Good.ge h
    refine ⟨by show nx0 ≤ r.hi; omega, fun r' hr => ?_⟩
    rcases List.mem_cons.1 hr with rfl | hr
    · exact ⟨by omega, Nat.le_refl _, by simp; omega⟩
    · obtain ⟨b1, b2, b3⟩ := a2 r' hr
      exact ⟨b1, by show _ ≤ r.hi; omega, by simp; omega⟩
theorem Good.uniq : ∀ {R : List Res}, Good cfg t ops cl T0 H0 nx0 R → ∀ r ∈ R, ∀ r' ∈ R, r.i ≠ r'.i → (∀ d, r.dst = some d → r'.dst ≠ some d) ∧ ∀ k, ¬ (r.lo ≤ k ∧ k < r.hi ∧ r'.lo ≤ k ∧ k < r'.hi)
  | [], _, r, hr, _, _, _ => by cases hr
  | x :: R, ⟨h, h1, h2, h3, h4, h5, h6⟩, r, hr, r', hr', hne => by
    have ge := Good.ge h
    rcases List.mem_cons.1 hr with rfl | hr2 <;> rcases List.mem_cons.1 hr' with rfl | hr3
    · exact absurd rfl hne
    · refine ⟨fun d hd => (h5 d hd).2.2 r' hr3, fun k hk => ?_⟩
      have := (ge.2 r' hr3).2.1; omega
    · refine ⟨fun d hd hd' => (h5 d hd').2.2 r hr2 hd, fun k hk => ?_⟩
      have := (ge.2 r hr2).2.1; omega
    · exact Good.uniq h r hr2 r' hr3 hne
theorem Good.key : ∀ {R : List Res}, Good cfg t ops cl T0 H0 nx0 R → ∀ r ∈ R, (∀ d, r.dst = some d → d < cfg.nt ∧ look d T0 = none) ∧ (∀ k c, look k r.N = some c → r.lo ≤ k ∧ k < r.hi) ∧
    ∃ R', (∀ x ∈ R', x ∈ R) ∧ ∃ o c cs, ops[r.i]? = some o ∧ r.dst = o.dst ∧ nth cl r.i = some c ∧ stepE cfg t ops.toList r.i o (tE (bitAt c) R' ++ T0) (hE (bitAt c) R' ++ H0) r.lo [] = some (r.av, r.N, r.hi, cs) ∧ All cs
  | [], _, r, hr => by cases hr
  | x :: R, ⟨h, h1, h2, h3, h4, h5, h6⟩, r, hr => by
    rcases List.mem_cons.1 hr with rfl | hr
    · exact ⟨fun d hd => ⟨(h5 d hd).1, (h5 d hd).2.1⟩, h4, R, fun x hx => List.mem_cons_of_mem _ hx, h6⟩
    · obtain ⟨a1, a2, R', a3, a4⟩ := Good.key h r hr
      exact ⟨a1, a2, R', fun x hx => List.mem_cons_of_mem _ (a3 x hx), a4⟩
theorem Good.get : ∀ {R : List Res}, Good cfg t ops cl T0 H0 nx0 R → ∀ j, j < R.length → ∃ r ∈ R, r.i = j
  | [], _, j, hj => by simp at hj
  | x :: R, ⟨h, h1, _⟩, j, hj => by
    by_cases e : j = R.length
    · exact ⟨x, List.mem_cons_self, by omega⟩
    · obtain ⟨r, hr, hi⟩ := Good.get h j (by simp at hj; omega)
      exact ⟨r, List.mem_cons_of_mem _ hr, hi⟩
theorem Good.same : ∀ {R : List Res}, Good cfg t ops cl T0 H0 nx0 R → ∀ r ∈ R, ∀ r' ∈ R, r.i = r'.i → r = r'
  | [], _, r, hr, _, _, _ => by cases hr
  | x :: R, ⟨h, h1, h2, _⟩, r, hr, r', hr', he => by
    have ge := Good.ge h
    rcases List.mem_cons.1 hr with rfl | hr2 <;> rcases List.mem_cons.1 hr' with rfl | hr3
    · rfl
    · have := (ge.2 r' hr3).2.2; omega
    · have := (ge.2 r hr2).2.2; omega
    · exact Good.same h r hr2 r' hr3 he

theorem Good.tIn {R : List Res} (hg : Good cfg t ops cl T0 H0 nx0 R) {D : Nat → Bool} : ∀ {S : List Res}, (∀ x ∈ S, x ∈ R) → ∀ r ∈ S, D r.i = true → ∀ k, r.dst = some k → look k (tE D S) = some r.av
  | [], _, r, hr, _, _, _ => by cases hr
  | x :: S, hS, r, hr, hD, k, hk => by
    simp only [tE]
    have hS' : ∀ y ∈ S, y ∈ R := fun y hy => hS y (List.mem_cons_of_mem _ hy)
    by_cases he : r.i = x.i
    · have : r = x := hg.same r (hS r hr) x (hS x List.mem_cons_self) he
      subst this
      rw [hD]
      simp only [hk]
      rw [look_cons, if_pos rfl]
    · have hrS : r ∈ S := by
        rcases List.mem_cons.1 hr with rfl | hr
        · exact absurd rfl he
        · exact hr
      have ih := Good.tIn hg hS' r hrS hD k hk
      split
      · split
        · rename_i d hd
          rw [look_cons, if_neg]
          · exact ih
          · rintro rfl
            exact (hg.uniq r (hS r hr) x (hS x List.mem_cons_self) he).1 k hk hd
        · exact ih
      · exact ih
theorem Good.hIn {R : List Res} (hg : Good cfg t ops cl T0 H0 nx0 R) {D : Nat → Bool} : ∀ {S : List Res}, (∀ x ∈ S, x ∈ R) → ∀ r ∈ S, D r.i = true → ∀ k c, look k r.N = some c → look k (hE D S) = some c
  | [], _, r, hr, _, _, _, _ => by cases hr
  | x :: S, hS, r, hr, hD, k, c, hk => by
    simp only [hE]
    have hS' : ∀ y ∈ S, y ∈ R := fun y hy => hS y (List.mem_cons_of_mem _ hy)
    by_cases he : r.i = x.i
    · have : r = x := hg.same r (hS r hr) x (hS x List.mem_cons_self) he
      subst this
      rw [hD]
      simp only
      rw [look_append, hk]; rfl
    · have hrS : r ∈ S := by
        rcases List.mem_cons.1 hr with rfl | hr
        · exact absurd rfl he
        · exact hr
      have ih := Good.hIn hg hS' r hrS hD k c hk
      split
      · rw [look_append]
        have : look k x.N = none := by
          cases hx : look k x.N with
          | none => rfl
          | some d =>
            have a1 := (hg.key r (hS r hr)).2.1 k c hk
            have a2 := (hg.key x (hS x List.mem_cons_self)).2.1 k d hx
            exact absurd ⟨a1.1, a1.2, a2.1, a2.2⟩ ((hg.uniq r (hS r hr) x (hS x List.mem_cons_self) he).2 k)
        rw [this]
        simpa using ih
      · exact ih

/-- Part of the results are known. -/
def UD (nx0 : Nat) (R : List Res) (D : Nat → Bool) (i : Nat) : Prop := i < nx0 ∨ ∃ r ∈ R, D r.i = true ∧ r.lo ≤ i ∧ i < r.hi
def Part (F : Frm) (T0 : List (Nat × AV)) (H0 : List (Nat × Chunk)) (nx0 : Nat) (R : List Res) (D : Nat → Bool) (ρ : Env) (a : Act) (w : World) : Prop :=
  Interp F (UD nx0 R D) (fun k => look k (tE D R ++ T0)) (fun k => look k (hE D R ++ H0)) ρ a w

theorem Good.tSub {R : List Res} (hg : Good cfg t ops cl T0 H0 nx0 R) {D D' : Nat → Bool} {S S' : List Res} (hS : ∀ x ∈ S, x ∈ R) (hS' : ∀ x ∈ S', x ∈ R) (hsub : ∀ x ∈ S, D x.i = true → D' x.i = true ∧ x ∈ S') {k : Nat} {v : AV}
    (h : look k (tE D S ++ T0) = some v) : look k (tE D' S' ++ T0) = some v := by
  rw [look_append] at h ⊢
  cases h1 : look k (tE D S) with
  | some u =>
    rw [h1] at h
    cases h
    obtain ⟨r, h2, h3, h4, rfl⟩ := tE_look h1
    obtain ⟨h5, h6⟩ := hsub r h2 h3
    rw [hg.tIn hS' r h6 h5 k h4]; rfl
  | none =>
    rw [h1] at h
    have h : look k T0 = some v := by simpa using h
    cases h2 : look k (tE D' S') with
    | none => simpa using h
    | some u =>
      obtain ⟨r, h3, _, h4, _⟩ := tE_look h2
      have := ((hg.key r (hS' r h3)).1 k h4).2
      rw [this] at h; cases h
theorem Good.hSub {R : List Res} (hg : Good cfg t ops cl T0 H0 nx0 R) (hH0 : ∀ i c, look i H0 = some c → i < nx0) {D D' : Nat → Bool} {S S' : List Res} (hS : ∀ x ∈ S, x ∈ R) (hS' : ∀ x ∈ S', x ∈ R) (hsub : ∀ x ∈ S, D x.i = true → D' x.i = true ∧ x ∈ S') {k : Nat} {v : Chunk}
    (h : look k (hE D S ++ H0) = some v) : look k (hE D' S' ++ H0) = some v := by
  rw [look_append] at h ⊢
  cases h1 : look k (hE D S) with
  | some u =>
    rw [h1] at h
    cases h
    obtain ⟨r, h2, h3, h4⟩ := hE_look h1
    obtain ⟨h5, h6⟩ := hsub r h2 h3
    rw [hg.hIn hS' r h6 h5 k v h4]; rfl
  | none =>
    rw [h1] at h
    have h : look k H0 = some v := by simpa using h
    cases h2 : look k (hE D' S') with
    | none => simpa using h
    | some u =>
      obtain ⟨r, h3, _, h4⟩ := hE_look h2
      have a1 := (hg.key r (hS' r h3)).2.1 k u h4
      have a2 := (hg.ge.2 r (hS' r h3)).1
      have a3 := hH0 k v h
      omega

theorem NewC.more {V : Nat → Prop} {ρ ρ' : Env} {H H' N : HMap} {w w' : World} (h : NewC V ρ ρ' H N w w') (hs : ∀ i c, H i = some c → H' i = some c) : NewC V ρ ρ' H' N w w' :=
  ⟨h.le, h.only, h.new, h.below, h.holds, fun i c e g hg => (h.fresh i c e g hg).imp id fun ⟨x, j, d, e, y⟩ => ⟨x, j, d, hs _ _ e, y⟩, h.apart⟩

/-- One more operation. -/
theorem part_step {F : Frm} (hC : CfgOk F cfg) (ht : t.ok F.P) {R : List Res} (hg : Good cfg t ops cl T0 H0 nx0 R) (hH0 : ∀ i c, look i H0 = some c → i < nx0) (hm : F.m ≤ nx0) {D : Nat → Bool} (hp : Part F T0 H0 nx0 R D ρ a w) {r : Res} (hr : r ∈ R) (hD : D r.i = false)
    (hcl : ∀ c k, nth cl r.i = some c → bitAt c k = true → D k = true) {D' : Nat → Bool} (hD' : ∀ k, D' k = true ↔ (D k = true ∨ k = r.i)) {K : Act → World → Prop} {Q : Exit → Act → World → Prop}
    (hK : ∀ ρ' a' w', Part F T0 H0 nx0 R D' ρ' a' w' → K a' w') : wpOpIn (fen F.rd) 2 F.P ops Q r.i K a w := by
  obtain ⟨k1, k2, R', k3, o, c, cs, e1, e2, e3, e4, e5⟩ := hg.key r hr
  have hid : ∀ x ∈ R, x ∈ R := fun _ h => h
  have hsub : ∀ x ∈ R', bitAt c x.i = true → D x.i = true ∧ x ∈ R := fun x hx hb => ⟨hcl c x.i e3 hb, k3 x hx⟩
  have hsubT : ∀ {k v}, look k (tE (bitAt c) R' ++ T0) = some v → look k (tE D R ++ T0) = some v := fun h => hg.tSub k3 hid hsub h
  have hsubH : ∀ {k v}, look k (hE (bitAt c) R' ++ H0) = some v → look k (hE D R ++ H0) = some v := fun h => hg.hSub hH0 k3 hid hsub h
  have hk : Know cfg F.P (fun k => look k (tE (bitAt c) R' ++ T0)) (fun k => look k (hE (bitAt c) R' ++ H0)) ρ a w :=
    hC.know (Interp.sub hp (U' := UD nx0 R D) (fun _ _ _ h => h) (fun k v h => hsubT h) (fun k v h => hsubH h))
  have hfree : ∀ k, r.lo ≤ k → k < r.hi → ρ k = none := by
    intro k h1 h2
    cases e : ρ k with
    | none => rfl
    | some L =>
      rcases hp.dom k L e with h3 | ⟨r', h3, h4, h5, h6⟩
      · have := (hg.ge.2 r hr).1; omega
      · exact absurd ⟨h1, h2, h5, h6⟩ ((hg.uniq r hr r' h3 (fun e => by rw [e, h4] at hD; cases hD)).2 k)
  refine stepE_sound hk ht e1 e4 e5 hfree k2 fun v w' ρ' hN hv => hK ρ' _ _ ?_
  have hN' := hN.more (H' := fun k => look k (hE D R ++ H0)) fun i c e => hsubH e
  have hheap := hp.heap.add hN'
  have hstep : Interp F (UD nx0 R D') (fun k => look k (tE D R ++ T0)) (orMap (fun k => look k r.N) fun k => look k (hE D R ++ H0)) ρ' a w' := by
    refine Interp.step hp hN'.le (fun i hi => hN'.only i (by have := (hg.ge.2 r hr).1; omega)) (fun i L e => ?_) hheap (fun g hgg => ?_) (hp.touch.trans (Touch.of_below (s := fun _ => False) hN'.below) (fun _ h => h.elim)) (KeepM.below hN'.below)
    · by_cases hi : r.lo ≤ i ∧ i < r.hi
      · exact .inr ⟨r, hr, (hD' _).2 (.inr rfl), hi.1, hi.2⟩
      · rw [hN'.only i hi] at e
        rcases hp.dom i L e with h3 | ⟨r', h3, h4, h5⟩
        · exact .inl h3
        · exact .inr ⟨r', h3, (hD' _).2 (.inl h4), h5⟩
    · rcases owned_add hp.heap hN' hgg with h6 | h6
      · left; have := hp.touch.size; omega
      · exact hp.fresh g h6
  have hput := hstep.put o.dst (av := r.av) (fun k e => by rw [← hC.nt]; exact (k1 k (by rw [e2]; exact e)).1) hv
  refine hput.sub (fun _ _ _ h => h) (fun k u h => ?_) (fun k ch h => ?_)
  · -- temporaries
    rw [look_append] at h
    have other : (∀ d, o.dst = some d → k ≠ d) → look k (tE D R ++ T0) = some u → updO (fun k => look k (tE D R ++ T0)) o.dst r.av k = some u := by
      intro hne hl
      cases hd : o.dst with
      | none => simpa [updO] using hl
      | some d => simp only [updO]; rw [upd_other _ _ (hne d hd)]; exact hl
    cases h1 : look k (tE D' R) with
    | some u' =>
      rw [h1] at h; cases h
      obtain ⟨x, x1, x2, x3, rfl⟩ := tE_look h1
      rcases (hD' _).1 x2 with x4 | x4
      · refine other (fun d hd hkd => ?_) (by rw [look_append, hg.tIn hid x x1 x4 k x3]; rfl)
        subst hkd
        exact (hg.uniq x x1 r hr (fun e => by rw [← e, x4] at hD; cases hD)).1 k x3 (by rw [e2]; exact hd)
      · have := hg.same x x1 r hr x4
        subst this
        rw [e2] at x3
        simp only [updO, x3, upd_same]
    | none =>
      rw [h1] at h
      have h : look k T0 = some u := by simpa using h
      refine other (fun d hd hkd => ?_) ?_
      · subst hkd
        have := (k1 k (by rw [e2]; exact hd)).2
        rw [this] at h; cases h
      · rw [look_append]
        cases h2 : look k (tE D R) with
        | none => simpa using h
        | some u2 =>
          obtain ⟨x, x1, x2, x3, _⟩ := tE_look h2
          have := ((hg.key x x1).1 k x3).2
          rw [this] at h; cases h
  · -- chunks
    rw [look_append] at h
    show (look k r.N).or (look k (hE D R ++ H0)) = some ch
    cases h1 : look k (hE D' R) with
    | some u' =>
      rw [h1] at h; cases h
      obtain ⟨x, x1, x2, x3⟩ := hE_look h1
      rcases (hD' _).1 x2 with x4 | x4
      · have hn : look k r.N = none := by
          cases hx : look k r.N with
          | none => rfl
          | some d =>
            have a1 := (hg.key x x1).2.1 k _ x3
            have a2 := k2 k d hx
            exact absurd ⟨a1.1, a1.2, a2.1, a2.2⟩ ((hg.uniq x x1 r hr (fun e => by rw [← e, x4] at hD; cases hD)).2 k)
        rw [hn, look_append, hg.hIn hid x x1 x4 k _ x3]; rfl
      · have := hg.same x x1 r hr x4
        subst this
        rw [x3]; rfl
    | none =>
      rw [h1] at h
      have h : look k H0 = some ch := by simpa using h
      have hlt := hH0 k ch h
      have hn : look k r.N = none := by
        cases hx : look k r.N with
        | none => rfl
        | some d => have := (k2 k d hx).1; have := (hg.ge.2 r hr).1; omega
      rw [hn, look_append]
      cases h2 : look k (hE D R) with
      | none => simpa using h
      | some u2 =>
        obtain ⟨x, x1, x2, x3⟩ := hE_look h2
        have := ((hg.key x x1).2.1 k _ x3).1
        have := (hg.ge.2 x x1).1
        omega

end
end Go.Sym

namespace Go.Sym
open Go.RowKit

def idsIn (lo hi : Nat) : List (Nat × Chunk) → Bool
  | [] => true
  | (k, _) :: l => match Nat.ble lo k && Nat.blt k hi with | true => idsIn lo hi l | false => false
theorem idsIn_mem {lo hi : Nat} : ∀ {l : List (Nat × Chunk)}, idsIn lo hi l = true → ∀ k c, look k l = some c → lo ≤ k ∧ k < hi
  | [], _, k, c, h => by cases h
  | (j, d) :: l, h, k, c, hl => by
    simp only [idsIn] at h
    split at h
    · rename_i hb
      simp only [Bool.and_eq_true] at hb
      rw [look_cons] at hl
      split at hl
      · rename_i e; subst e
        exact ⟨Nat.le_of_ble_eq_true hb.1, Nat.le_of_ble_eq_true hb.2⟩
      · exact idsIn_mem h k c hl
    · cases h
def dstFree (d : Nat) : List Res → Bool
  | [] => true
  | ⟨_, dst, _, _, _, _⟩ :: R => match dst with
    | some d' => match Nat.beq d d' with | true => false | false => dstFree d R
    | none => dstFree d R
theorem dstFree_mem {d : Nat} : ∀ {R : List Res}, dstFree d R = true → ∀ r ∈ R, r.dst ≠ some d
  | [], _, r, h => by cases h
  | x :: R, h, r, hr => by
    simp only [dstFree] at h
    split at h
    · rename_i d' hd
      split at h
      · cases h
      · rename_i hb
        rcases List.mem_cons.1 hr with rfl | hr2
        · rw [hd]; intro e; cases e; simp at hb
        · exact dstFree_mem h r hr2
    · rename_i hd
      rcases List.mem_cons.1 hr with rfl | hr2
      · rw [hd]; simp
      · exact dstFree_mem h r hr2
def okE (nt : Nat) (T0 : List (Nat × AV)) (R : List Res) (dst : Option Tmp) (N : List (Nat × Chunk)) (nx nx' : Nat) : Bool :=
  match Nat.ble nx nx' && idsIn nx nx' N with
  | true => match dst with
    | none => true
    | some d => match Nat.blt d nt, look d T0 with
      | true, none => dstFree d R
      | _, _ => false
  | false => false

def stab (cfg : Cfg) (t : Told) (ops : List Oper) (cl : List Nat) (T0 : List (Nat × AV)) (H0 : List (Nat × Chunk)) : Nat → Nat → List Oper → Nat → List Res → List (List Cd) → Option (List Res × Nat × List (List Cd))
  | 0, _, _, nx, R, css => some (R, nx, css)
  | _ + 1, _, [], _, _, _ => none
  | m + 1, j, o :: rest, nx, R, css => match nth cl j, o.dst with
    | some c, dst => forceK (tE (bitAt c) R ++ T0) [] fun T => forceK (hE (bitAt c) R ++ H0) [] fun H => match stepE cfg t ops j o T H nx [] with
      | some (r, N, nx', cs) => match okE cfg.nt T0 R dst N nx nx', nxt j with
        | true, some j' => match cs with
          | [] => stab cfg t ops cl T0 H0 m j' rest nx' (⟨j, dst, r, N, nx, nx'⟩ :: R) css
          | c :: cs' => stab cfg t ops cl T0 H0 m j' rest nx' (⟨j, dst, r, N, nx, nx'⟩ :: R) ((c :: cs') :: css)
        | _, _ => none
      | none => none
    | none, _ => none

theorem stab_good {cfg : Cfg} {t : Told} {ops : Array Oper} {cl : List Nat} {T0 : List (Nat × AV)} {H0 : List (Nat × Chunk)} {nx0 : Nat} : ∀ {m j : Nat} {rest : List Oper} {nx nx' : Nat} {R R' : List Res} {css css' : List (List Cd)},
    stab cfg t ops.toList cl T0 H0 m j rest nx R css = some (R', nx', css') → (∀ k, rest[k]? = ops[j + k]?) → Good cfg t ops cl T0 H0 nx0 R → R.length = j → nx = nxOf nx0 R → AllL css' →
    AllL css ∧ Good cfg t ops cl T0 H0 nx0 R' ∧ R'.length = j + m ∧ nx' = nxOf nx0 R'
  | 0, j, rest, nx, nx', R, R', css, css', h, hr, hg, hl, hn, hc => by cases h; exact ⟨hc, hg, hl, hn⟩
  | m + 1, j, [], nx, nx', R, R', css, css', h, hr, hg, hl, hn, hc => by simp [stab] at h
  | m + 1, j, o :: rest, nx, nx', R, R', css, css', h, hr, hg, hl, hn, hc => by
    simp only [stab] at h
    split at h
    · rename_i c hcl
      rw [force_eq, force_eq] at h
      split at h
      · rename_i r N nx1 cs h1
        split at h
        · rename_i j' hok hj
          cases nxt_eq hj
          have hr' : ∀ k, rest[k]? = ops[j + 1 + k]? := fun k => by have := hr (k + 1); simpa [Nat.add_assoc, Nat.add_comm 1 k] using this
          have ho : ops[j]? = some o := by have := hr 0; simpa using this.symm
          have hgood : All cs → Good cfg t ops cl T0 H0 nx0 (⟨j, o.dst, r, N, nx, nx1⟩ :: R) := by
            intro hcs
            unfold okE at hok
            split at hok
            · rename_i hb
              simp only [Bool.and_eq_true] at hb
              refine ⟨hg, hl.symm, hn, Nat.le_of_ble_eq_true hb.1, idsIn_mem hb.2, fun d hd => ?_, o, c, cs, ho, rfl, hcl, h1, hcs⟩
              dsimp only at hd
              rw [hd] at hok
              simp only at hok
              split at hok
              · rename_i hb1 hb2
                exact ⟨Nat.le_of_ble_eq_true hb1, hb2, dstFree_mem hok⟩
              · cases hok
            · cases hok
          split at h
          · obtain ⟨a1, a2, a3, a4⟩ := stab_good h hr' (hgood trivial) (by simp [hl]) rfl hc
            exact ⟨a1, a2, by omega, a4⟩
          · have hcc := stab_acc h hc
            obtain ⟨a1, a2, a3, a4⟩ := stab_good h hr' (hgood hcc.1) (by simp [hl]) rfl hc
            exact ⟨a1.2, a2, by omega, a4⟩
        · cases h
      · cases h
    · cases h
where stab_acc {cfg : Cfg} {t : Told} {ops : List Oper} {cl : List Nat} {T0 : List (Nat × AV)} {H0 : List (Nat × Chunk)} : ∀ {m j : Nat} {rest : List Oper} {nx nx' : Nat} {R R' : List Res} {css css' : List (List Cd)},
    stab cfg t ops cl T0 H0 m j rest nx R css = some (R', nx', css') → AllL css' → AllL css
  | 0, j, rest, nx, nx', R, R', css, css', h, hc => by cases h; exact hc
  | m + 1, j, [], nx, nx', R, R', css, css', h, hc => by simp [stab] at h
  | m + 1, j, o :: rest, nx, nx', R, R', css, css', h, hc => by
    simp only [stab] at h
    split at h
    · rw [force_eq, force_eq] at h
      split at h
      · split at h
        · split at h
          · exact stab_acc h hc
          · exact (stab_acc h hc).2
        · cases h
      · cases h
    · cases h

/-- What an operation waits for, by the edges. -/
def depM (cl : List Nat) (j : Nat) : List Edge → Nat → Option Nat
  | [], s => some s
  | e :: l, s => match Region.binds .any e with
    | true => match Nat.blt e.on j, nth cl e.on with
      | true, some c => depM cl j l (Nat.lor s (Nat.lor c (Nat.shiftLeft 1 e.on)))
      | _, _ => none
    | false => depM cl j l s
theorem depM_bit {cl : List Nat} {j k : Nat} : ∀ {l : List Edge} {s s' : Nat}, depM cl j l s = some s' → (s'.testBit k = true → s.testBit k = true ∨ ∃ e ∈ l, Region.binds .any e = true ∧ (k = e.on ∨ ∃ c, nth cl e.on = some c ∧ c.testBit k = true)) ∧ ∀ e ∈ l, Region.binds .any e = true → e.on < j
  | [], s, s', h => by cases h; exact ⟨fun h => .inl h, fun e he => by cases he⟩
  | e :: l, s, s', h => by
    simp only [depM] at h
    split at h
    · rename_i hb
      split at h
      · rename_i c h1 h2
        obtain ⟨h3, h4⟩ := depM_bit (k := k) h
        refine ⟨fun hk => ?_, fun e' he hb' => ?_⟩
        · rcases h3 hk with h5 | ⟨e', h5, h6⟩
          · have h5 : (s ||| (c ||| (1 <<< e.on))).testBit k = true := h5
            rw [Nat.testBit_or, Nat.testBit_or, Bool.or_eq_true, Bool.or_eq_true] at h5
            rcases h5 with h5 | h5 | h5
            · exact .inl h5
            · exact .inr ⟨e, List.mem_cons_self, hb, .inr ⟨c, h2, h5⟩⟩
            · refine .inr ⟨e, List.mem_cons_self, hb, .inl ?_⟩
              rw [Nat.one_shiftLeft, Nat.testBit_two_pow] at h5
              exact (of_decide_eq_true h5).symm
          · exact .inr ⟨e', List.mem_cons_of_mem _ h5, h6⟩
        · rcases List.mem_cons.1 he with rfl | he
          · exact Nat.le_of_ble_eq_true h1
          · exact h4 e' he hb'
      · cases h
    · rename_i hb
      obtain ⟨h3, h4⟩ := depM_bit (k := k) h
      refine ⟨fun hk => ?_, fun e' he hb' => ?_⟩
      · rcases h3 hk with h5 | ⟨e', h5, h6⟩
        · exact .inl h5
        · exact .inr ⟨e', List.mem_cons_of_mem _ h5, h6⟩
      · rcases List.mem_cons.1 he with rfl | he
        · rw [hb'] at hb; cases hb
        · exact h4 e' he hb'

/-- The table of what each operation waits for is right; from m on each waits for all before it. -/
def clOk (cl : List Nat) (m : Nat) : List Oper → Nat → Bool
  | [], _ => true
  | o :: l, j => match nth cl j, depM cl j o.after.toList 0, nxt j with
    | some c, some s, some j' => match Nat.beq (Nat.land c s) c && (Nat.blt j m || Nat.beq (c + 1) (Nat.shiftLeft 1 j)) with
      | true => clOk cl m l j'
      | false => false
    | _, _, _ => false
theorem clOk_mem {cl : List Nat} {m : Nat} : ∀ {l : List Oper} {j : Nat}, clOk cl m l j = true → ∀ i o, l[i]? = some o → ∃ c, nth cl (j + i) = some c ∧ (∀ e ∈ o.after, Region.binds .any e = true → e.on < j + i) ∧
    (∀ k, c.testBit k = true → ∃ e ∈ o.after, Region.binds .any e = true ∧ (k = e.on ∨ ∃ c', nth cl e.on = some c' ∧ c'.testBit k = true)) ∧ (m ≤ j + i → ∀ k, k < j + i → c.testBit k = true)
  | [], j, _, i, o, h => by simp at h
  | x :: l, j, hk, i, o, h => by
    simp only [clOk] at hk
    split at hk
    · rename_i c s j' h1 h2 h3
      cases nxt_eq h3
      split at hk
      · rename_i hb
        simp only [Bool.and_eq_true, Bool.or_eq_true] at hb
        cases i with
        | zero =>
          simp only [List.getElem?_cons_zero, Option.some.injEq] at h
          subst h
          refine ⟨c, h1, fun e he => (depM_bit (k := 0) h2).2 e (Array.mem_toList_iff.2 he), fun k hk => ?_, fun hm k hkj => ?_⟩
          · have hs : s.testBit k = true := by
              have h4 : Nat.land c s = c := Nat.eq_of_beq_eq_true hb.1
              have h5 : (c &&& s).testBit k = true := by show (Nat.land c s).testBit k = true; rw [h4]; exact hk
              rw [Nat.testBit_and, Bool.and_eq_true] at h5
              exact h5.2
            rcases (depM_bit h2).1 hs with h6 | ⟨e, h6, h7⟩
            · simp at h6
            · exact ⟨e, Array.mem_toList_iff.1 h6, h7⟩
          · rcases hb.2 with h4 | h4
            · have := Nat.le_of_ble_eq_true h4; simp at hm; omega
            · have h5 : c + 1 = 1 <<< j := Nat.eq_of_beq_eq_true h4
              rw [Nat.one_shiftLeft] at h5
              have h6 : c = 2 ^ j - 1 := by omega
              rw [h6, Nat.testBit_two_pow_sub_one]
              simpa using hkj
        | succ i =>
          obtain ⟨c', a1, a2, a3, a4⟩ := clOk_mem hk i o (by simpa using h)
          have e : j + 1 + i = j + (i + 1) := by omega
          rw [e] at a1 a2 a4
          exact ⟨c', a1, a2, a3, a4⟩
      · cases hk
    · cases hk

/-- What the first operations write. -/
def dstsOf : Nat → List Oper → List Nat
  | 0, _ => []
  | _ + 1, [] => []
  | m + 1, o :: l => match o.dst with
    | some d => d :: dstsOf m l
    | none => dstsOf m l
def inN (j : Nat) : List Nat → Bool
  | [] => false
  | d :: l => match Nat.beq j d with | true => true | false => inN j l
def filtT (ds : List Nat) : List (Nat × AV) → List (Nat × AV)
  | [] => []
  | (j, d) :: l => match inN j ds with | true => filtT ds l | false => (j, d) :: filtT ds l
theorem filtT_none {ds : List Nat} {k : Nat} (hk : inN k ds = true) : ∀ T : List (Nat × AV), look k (filtT ds T) = none
  | [] => rfl
  | (j, d) :: l => by
    simp only [filtT]
    split
    · exact filtT_none hk l
    · rename_i hj
      rw [look_cons, if_neg (fun e => by rw [← e, hk] at hj; cases hj)]
      exact filtT_none hk l
theorem filtT_look {ds : List Nat} {k : Nat} {v : AV} : ∀ {T : List (Nat × AV)}, look k (filtT ds T) = some v → look k T = some v
  | [], h => by simpa [filtT] using h
  | (j, d) :: l, h => by
    simp only [filtT] at h
    split at h
    · rename_i hj
      by_cases e : k = j
      · rw [filtT_none (by rw [e]; exact hj)] at h; cases h
      · rw [look_cons, if_neg e]; exact filtT_look h
    · rw [look_cons] at h ⊢
      split
      · rename_i e; rw [if_pos e] at h; exact h
      · rename_i e; rw [if_neg e] at h; exact filtT_look h
def delKeys (ops : List Oper) (m : Nat) (T : List (Nat × AV)) : List (Nat × AV) := forceK (dstsOf m ops) [] fun ds => filtT ds T
theorem delKeys_look {ops : List Oper} {m : Nat} {T : List (Nat × AV)} {k : Nat} {v : AV} (h : look k (delKeys ops m T) = some v) : look k T = some v := by
  unfold delKeys at h
  rw [force_eq] at h
  exact filtT_look h

def runDrawn (cfg : Cfg) (t : Told) (cl : List Nat) (m : Nat) (ops : List Oper) (T : List (Nat × AV)) (H : List (Nat × Chunk)) (nx : Nat) : Option (St × List (List Cd)) :=
  match clOk cl m ops 0 with
  | true => forceK (delKeys ops m T) [] fun T0 => match stab cfg t ops cl T0 H m 0 ops nx [] [] with
    | some (R, nx1, css) => forceK (tE (fun _ => true) R ++ T0) [] fun T1 => forceK (hE (fun _ => true) R ++ H) [] fun H1 => runOps cfg t ops m (ops.drop m) T1 H1 nx1 css
    | none => none
  | false => none

theorem Holds.drew {F : Frm} {T : List (Nat × AV)} {H : List (Nat × Chunk)} {nx : Nat} {ρ : Env} {a : Act} {w : World} (h : Holds F T H nx ρ a w) : Holds F T H nx ρ a { w with drawn := w.drawn + 1 } :=
  ⟨h.m, h.I.step (Env.le.refl _) (fun _ _ => rfl) h.I.dom (h.I.heap.ext (fun _ _ => rfl)) h.I.fresh (h.I.touch.trans (Touch.drew _) (fun _ h => h.elim)) (fun _ _ => rfl)⟩

theorem countP_lt {α : Type} {p q : α → Bool} : ∀ {l : List α} {x : α}, x ∈ l → (∀ y, q y = true → p y = true) → p x = true → q x = false → l.countP q < l.countP p
  | [], x, hx, _, _, _ => by cases hx
  | y :: l, x, hx, hi, hp, hq => by
    have hle : ∀ l : List α, l.countP q ≤ l.countP p := fun l => List.countP_mono_left fun y _ => hi y
    rcases List.mem_cons.1 hx with rfl | hx
    · rw [List.countP_cons_of_pos hp, List.countP_cons_of_neg (by simp [hq])]
      have := hle l; omega
    · have ih := countP_lt hx hi hp hq
      by_cases hy : q y = true
      · rw [List.countP_cons_of_pos hy, List.countP_cons_of_pos (hi y hy)]; omega
      · rw [List.countP_cons_of_neg hy]
        by_cases hy' : p y = true
        · rw [List.countP_cons_of_pos hy']; omega
        · rw [List.countP_cons_of_neg hy']; exact ih

section
variable {cfg : Cfg} {F : Frm} {t : Told} {ops : Array Oper} {cl : List Nat} {T0 : List (Nat × AV)} {H0 : List (Nat × Chunk)} {nx0 m : Nat} {R : List Res} {s' : St} {css' : List (List Cd)} {Q : Exit → St → Prop}

def got (listed : Array Bool) (k : Nat) : Bool := listed.getD k false
/-- What is listed is listed with all that it waits for. -/
def Closed (cl : List Nat) (listed : Array Bool) : Prop := ∀ i c k, got listed i = true → nth cl i = some c → c.testBit k = true → got listed k = true

theorem ready_iff {listed : Array Bool} (hs : listed.size = ops.size) {i : Nat} : i ∈ Region.ready .any ops listed ↔ ∃ o, ops[i]? = some o ∧ got listed i = false ∧ ∀ e ∈ o.after, Region.binds .any e = true → got listed e.on = true := by
  unfold Region.ready got
  simp only [List.mem_filter, List.mem_range, Bool.and_eq_true, Bool.not_eq_true']
  constructor
  · rintro ⟨h1, h2, h3⟩
    refine ⟨ops[i], by simp [h1], ?_, ?_⟩
    · have : i < listed.size := by omega
      simp only [Array.getD_eq_getD_getElem?, this, getElem?_pos, Option.getD_some] at h2 ⊢
      exact h2
    · simp only [h1, getElem?_pos, Option.map_some, Option.getD_some, Array.all_eq_true_iff_forall_mem] at h3
      intro e he hb
      have := h3 e he
      simpa [hb] using this
  · rintro ⟨o, h1, h2, h3⟩
    obtain ⟨h4, h5⟩ := Array.getElem?_eq_some_iff.1 h1
    refine ⟨h4, ?_, ?_⟩
    · have : i < listed.size := by omega
      simp only [Array.getD_eq_getD_getElem?, this, getElem?_pos, Option.getD_some] at h2 ⊢
      exact h2
    · rw [h1]
      simp only [Option.map_some, Option.getD_some, Array.all_eq_true_iff_forall_mem]
      intro e he
      cases hb : Region.binds .any e with
      | false => rfl
      | true => simpa using h3 e he hb

theorem got_set {listed : Array Bool} {i : Nat} (hi : i < listed.size) (k : Nat) : got (listed.setIfInBounds i true) k = true ↔ (got listed k = true ∨ k = i) := by
  unfold got
  simp only [Array.getD_eq_getD_getElem?, Array.getElem?_setIfInBounds]
  by_cases h : i = k
  · subst h; simp [hi]
  · simp only [if_neg h]
    constructor
    · exact .inl
    · rintro (h1 | h1)
      · exact h1
      · exact absurd h1.symm h

/-- Where a run in some order may stand. -/
def Stand (cfg : Cfg) (F : Frm) (t : Told) (ops : Array Oper) (T0 : List (Nat × AV)) (H0 : List (Nat × Chunk)) (nx0 m : Nat) (R : List Res) (s' : St) (css' : List (List Cd)) (listed : Array Bool) (a : Act) (w : World) : Prop :=
  ((∃ i, i < m ∧ got listed i = false) ∧ (∀ i, got listed i = true → i < m) ∧ ∃ ρ, Part F T0 H0 nx0 R (got listed) ρ a w) ∨
  (∃ j T H nx css ρ, m ≤ j ∧ j ≤ ops.size ∧ (∀ i, got listed i = true ↔ i < j) ∧ runOps cfg t ops.toList j (ops.toList.drop j) T H nx css = some (s', css') ∧ Holds F T H nx ρ a w)

theorem drawn_sound (hC : CfgOk F cfg) (ht : t.ok F.P) (hcl : clOk cl m ops.toList 0 = true) (hg : Good cfg t ops cl T0 H0 nx0 R) (hRl : R.length = m) (hmn : m ≤ ops.size) (hH0 : ∀ i c, look i H0 = some c → i < nx0) (hm : F.m ≤ nx0)
    {css1 : List (List Cd)} (hrun : runOps cfg t ops.toList m (ops.toList.drop m) (tE (fun _ => true) R ++ T0) (hE (fun _ => true) R ++ H0) (nxOf nx0 R) css1 = some (s', css')) (hc : AllL css') (hq : Q .normal s') :
    ∀ (fuel : Nat) (listed : Array Bool) (a : Act) (w : World), listed.size = ops.size → Closed cl listed → (List.range ops.size).countP (fun i => !got listed i) ≤ fuel → Stand cfg F t ops T0 H0 nx0 m R s' css' listed a w →
      wpAnyIn (fen F.rd) 2 F.P .any ops (Post F Q) fuel listed a w := by
  have hcm : ∀ i o, ops[i]? = some o → ∃ c, nth cl i = some c ∧ (∀ e ∈ o.after, Region.binds .any e = true → e.on < i) ∧
      (∀ k, c.testBit k = true → ∃ e ∈ o.after, Region.binds .any e = true ∧ (k = e.on ∨ ∃ c', nth cl e.on = some c' ∧ c'.testBit k = true)) ∧ (m ≤ i → ∀ k, k < i → c.testBit k = true) := by
    intro i o h
    have := clOk_mem hcl i o (by rw [Array.getElem?_toList]; exact h)
    simpa using this
  -- what a ready operation waits for is listed
  have waits : ∀ {listed : Array Bool} {i : Nat} {o : Oper}, Closed cl listed → ops[i]? = some o → (∀ e ∈ o.after, Region.binds .any e = true → got listed e.on = true) → ∀ c k, nth cl i = some c → c.testBit k = true → got listed k = true := by
    intro listed i o hcd ho hdep c k h1 h2
    obtain ⟨c', a1, _, a3, _⟩ := hcm i o ho
    rw [h1] at a1; cases a1
    obtain ⟨e, b1, b2, b3⟩ := a3 k h2
    have := hdep e b1 b2
    rcases b3 with rfl | ⟨c', b4, b5⟩
    · exact this
    · exact hcd e.on c' k this b4 b5
  -- if something is not listed, something is ready
  have some_ready : ∀ {listed : Array Bool}, listed.size = ops.size → ∀ i, i < ops.size → got listed i = false → ∃ j, j ∈ Region.ready .any ops listed := by
    intro listed hs i
    induction i using Nat.strongRecOn with
    | _ i ih =>
      intro hi hn
      by_cases hall : ∀ e ∈ (ops[i]).after, Region.binds .any e = true → got listed e.on = true
      · exact ⟨i, (ready_iff hs).2 ⟨ops[i], by simp [hi], hn, hall⟩⟩
      · have : ∃ e ∈ (ops[i]).after, Region.binds .any e = true ∧ got listed e.on = false := by
          refine Classical.byContradiction fun hcon => ?_
          refine hall fun e he hb => ?_
          by_cases hge : got listed e.on = true
          · exact hge
          · exact absurd ⟨e, he, hb, by simpa using hge⟩ hcon
        obtain ⟨e, he, hb, hge⟩ := this
        obtain ⟨_, _, h2, _⟩ := hcm i ops[i] (by simp [hi])
        have hlt := h2 e he hb
        exact ih e.on hlt (by omega) hge
  have toB : ∀ {listed : Array Bool} {ρ : Env} {a : Act} {w : World}, (∀ i, i < m → got listed i = true) → Part F T0 H0 nx0 R (got listed) ρ a w → Holds F (tE (fun _ => true) R ++ T0) (hE (fun _ => true) R ++ H0) (nxOf nx0 R) ρ a w := by
    intro listed ρ a w hl hp
    have hge := hg.ge
    have hid : ∀ x ∈ R, x ∈ R := fun _ h => h
    have hall : ∀ x ∈ R, (fun _ : Nat => true) x.i = true → got listed x.i = true ∧ x ∈ R := fun x hx _ => ⟨hl x.i (by rw [← hRl]; exact (hge.2 x hx).2.2), hx⟩
    refine ⟨by omega, Interp.sub hp (fun i L _ h => ?_) (fun k v h => hg.tSub hid hid hall h) (fun k v h => hg.hSub hH0 hid hid hall h)⟩
    rcases h with h | ⟨r, h1, _, h2, h3⟩
    · show i < _; omega
    · have := (hge.2 r h1).2.1; show i < _; omega
  have all_listed_ready : ∀ {listed : Array Bool} {j : Nat}, listed.size = ops.size → Closed cl listed → m ≤ j → (∀ i, got listed i = true ↔ i < j) → ∀ i ∈ Region.ready .any ops listed, i = j := by
    intro listed j hs hcd hmj hl i hi
    obtain ⟨o, h1, h2, h3⟩ := (ready_iff hs).1 hi
    have hji : ¬ i < j := fun h => by rw [(hl i).2 h] at h2; cases h2
    by_cases hij : i = j
    · exact hij
    · obtain ⟨c, a1, _, _, a4⟩ := hcm i o h1
      have := waits hcd h1 h3 c j a1 (a4 (by omega) j (by omega))
      have := (hl j).1 this
      omega
  intro fuel
  induction fuel with
  | zero =>
    intro listed a w hs hcd hcount hst
    have hall : ∀ i, i < ops.size → got listed i = true := by
      intro i hi
      have h0 : (List.range ops.size).countP (fun i => !got listed i) = 0 := by omega
      rw [List.countP_eq_zero] at h0
      have := h0 i (List.mem_range.2 hi)
      simpa using this
    have hempty : Region.ready .any ops listed = [] := by
      rw [List.eq_nil_iff_forall_not_mem]
      intro i hi
      obtain ⟨o, h1, h2, _⟩ := (ready_iff hs).1 hi
      rw [hall i (Array.getElem?_eq_some_iff.1 h1).1] at h2; cases h2
    refine ⟨hempty, ?_⟩
    rcases hst with ⟨⟨i, h1, h2⟩, _⟩ | ⟨j, T, H, nx, css, ρ, h1, h2, h3, h4, h5⟩
    · rw [hall i (by omega)] at h2; cases h2
    · have hj : j = ops.size := by
        rcases Nat.lt_or_ge j ops.size with h | h
        · exact absurd ((h3 j).1 (hall j h)) (by omega)
        · omega
      rw [hj, List.drop_of_length_le (by simp)] at h4
      cases h4
      exact ⟨_, ρ, hq, h5⟩
  | succ fuel ih =>
    intro listed a w hs hcd hcount hst
    have next : ∀ {i : Nat} {o : Oper}, ops[i]? = some o → got listed i = false → (∀ e ∈ o.after, Region.binds .any e = true → got listed e.on = true) → (listed.setIfInBounds i true).size = ops.size ∧ Closed cl (listed.setIfInBounds i true) ∧
        (List.range ops.size).countP (fun k => !got (listed.setIfInBounds i true) k) ≤ fuel := by
      intro i o ho hn hdep
      have hi : i < listed.size := by rw [hs]; exact (Array.getElem?_eq_some_iff.1 ho).1
      refine ⟨by simp [hs], fun x c k h1 h2 h3 => ?_, ?_⟩
      · rw [got_set hi] at h1 ⊢
        rcases h1 with h1 | rfl
        · exact .inl (hcd x c k h1 h2 h3)
        · exact .inl (waits hcd ho hdep c k h2 h3)
      · have := countP_lt (p := fun k => !got listed k) (q := fun k => !got (listed.setIfInBounds i true) k) (l := List.range ops.size) (x := i) (List.mem_range.2 (by omega)) (fun y hy => ?_) (by simp [hn]) (by
          have := (got_set hi i).2 (.inr rfl); simp [this])
        · omega
        · simp only [Bool.not_eq_true', Bool.not_eq_true] at hy ⊢
          cases h : got listed y with
          | false => rfl
          | true => rw [(got_set hi y).2 (.inl h)] at hy; cases hy
    have seqStep : ∀ {j : Nat} {T : List (Nat × AV)} {H : List (Nat × Chunk)} {nx : Nat} {css : List (List Cd)} {ρ : Env}, m ≤ j → (∀ i, got listed i = true ↔ i < j) → runOps cfg t ops.toList j (ops.toList.drop j) T H nx css = some (s', css') → Holds F T H nx ρ a w →
        ∀ {o : Oper}, ops[j]? = some o → (∀ e ∈ o.after, Region.binds .any e = true → got listed e.on = true) → wpOpIn (fen F.rd) 2 F.P ops (Post F Q) j (wpAnyIn (fen F.rd) 2 F.P .any ops (Post F Q) fuel (listed.setIfInBounds j true)) a w := by
      intro j T H nx css ρ hmj hl hrun' hH o ho hdep
      have hj : j < ops.size := (Array.getElem?_eq_some_iff.1 ho).1
      have hdrop : ops.toList.drop j = o :: ops.toList.drop (j + 1) := by
        rw [List.drop_eq_getElem_cons (by simpa using hj)]
        congr 1
        have := (Array.getElem?_eq_some_iff.1 ho).2
        simpa using this
      rw [hdrop] at hrun'
      simp only [runOps] at hrun'
      split at hrun'
      · rename_i T' H' nx' cs hst'
        have fin : ∀ {css2 : List (List Cd)}, runOps cfg t ops.toList (j + 1) (ops.toList.drop (j + 1)) T' H' nx' css2 = some (s', css') → All cs → wpOpIn (fen F.rd) 2 F.P ops (Post F Q) j (wpAnyIn (fen F.rd) 2 F.P .any ops (Post F Q) fuel (listed.setIfInBounds j true)) a w := by
          intro css2 hr hcs
          have hn : got listed j = false := by
            cases h : got listed j with
            | false => rfl
            | true => have := (hl j).1 h; omega
          obtain ⟨b1, b2, b3⟩ := next ho hn hdep
          refine (stepOp_sound (Q := Post F Q) hC ht hH ho hst' hcs fun ρ' a' w' _ hH' => ih _ a' w' b1 b2 b3 (.inr ⟨j + 1, T', H', nx', css2, ρ', by omega, by omega, fun i => ?_, hr, hH'⟩)).2
          rw [got_set (by omega), hl]
          omega
        split at hrun'
        · exact fin hrun' trivial
        · exact fin hrun' (runOps_acc hrun' hc).1
      · cases hrun'
    refine ⟨fun hempty => ?_, fun i hi => ?_⟩
    · rcases hst with ⟨⟨i, h1, h2⟩, _⟩ | ⟨j, T, H, nx, css, ρ, h1, h2, h3, h4, h5⟩
      · obtain ⟨k, hk⟩ := some_ready hs i (by omega) h2
        rw [hempty] at hk; cases hk
      · have hj : j = ops.size := by
          rcases Nat.lt_or_ge j ops.size with h | h
          · have hnj : got listed j = false := by
              cases hx : got listed j with
              | false => rfl
              | true => have := (h3 j).1 hx; omega
            obtain ⟨k, hk⟩ := some_ready hs j h hnj
            rw [hempty] at hk; cases hk
          · omega
        rw [hj, List.drop_of_length_le (by simp)] at h4
        cases h4
        exact ⟨_, ρ, hq, h5⟩
    · obtain ⟨o, h1, h2, h3⟩ := (ready_iff hs).1 hi
      rcases hst with ⟨⟨u, hu1, hu2⟩, hst1, ρ, hp⟩ | ⟨j, T, H, nx, css, ρ, hmj, hjn, hl, hr, hH⟩
      · have him : i < m := by
          rcases Nat.lt_or_ge i m with h | h
          · exact h
          · obtain ⟨c, a1, _, _, a4⟩ := hcm i o h1
            have := waits hcd h1 h3 c u a1 (a4 h u (by omega))
            rw [this] at hu2; cases hu2
        obtain ⟨r, hr, hri⟩ := hg.get i (by omega)
        obtain ⟨b1, b2, b3⟩ := next h1 h2 h3
        have hil : i < listed.size := by rw [hs]; exact (Array.getElem?_eq_some_iff.1 h1).1
        subst hri
        refine part_step (Q := Post F Q) hC ht hg hH0 hm hp hr h2 (fun c k hcc hb => ?_) (D' := got (listed.setIfInBounds r.i true)) (fun k => got_set hil k) fun ρ' a' w' hp' => ih _ a' w' b1 b2 b3 ?_
        · rw [bitAt_eq] at hb
          exact waits hcd h1 h3 c k hcc hb
        · have hl' : ∀ k, got (listed.setIfInBounds r.i true) k = true → k < m := fun k hk => by
            rcases (got_set hil k).1 hk with h | rfl
            · exact hst1 k h
            · exact him
          by_cases hall : ∃ k, k < m ∧ got (listed.setIfInBounds r.i true) k = false
          · exact .inl ⟨hall, hl', ρ', hp'⟩
          · have hall' : ∀ k, k < m → got (listed.setIfInBounds r.i true) k = true := fun k hk => by
              cases hx : got (listed.setIfInBounds r.i true) k with
              | true => rfl
              | false => exact absurd ⟨k, hk, hx⟩ hall
            exact .inr ⟨m, _, _, _, css1, ρ', Nat.le_refl _, hmn, fun k => ⟨hl' k, hall' k⟩, hrun, toB hall' hp'⟩
      · have := all_listed_ready hs hcd hmj hl i hi
        subst this
        exact seqStep hmj hl hr hH h1 h3

theorem lwp_drawn (hC : CfgOk F cfg) (hmx : F.P.follows .mixedOrders = true) (t : Told) (ht : t.ok F.P) (cl : List Nat) (m : Nat) {id : Nat} {ops : Array Oper} {T : List (Nat × AV)} {H : List (Nat × Chunk)} {nx : Nat} {s' : St} {css : List (List Cd)}
    (h : runDrawn cfg t cl m ops.toList T H nx = some (s', css)) (hc : AllL css) (hq : Q .normal s') : LWP F (.region id ops true) Q ⟨T, H, nx⟩ := ⟨fun ρ a w hs => by
  unfold runDrawn at h
  split at h
  case h_2 => cases h
  rename_i hcl
  rw [force_eq] at h
  split at h
  case h_2 => cases h
  rename_i R nx1 css1 hstab
  rw [force_eq, force_eq] at h
  have hs1 : Holds F T H nx ρ a { w with drawn := w.drawn + 1 } := Holds.drew hs
  obtain ⟨_, hg, hRl, hnx⟩ := stab_good (nx0 := nx) hstab (fun k => by simp) trivial rfl rfl (runOps_acc h hc)
  subst hnx
  have hRl : R.length = m := by omega
  have hmn : m ≤ ops.size := by
    rcases Nat.lt_or_ge ops.size m with hlt | hge
    · have h0 : 0 < R.length := by omega
      obtain ⟨r, hr, hri⟩ := hg.get (m - 1) (by omega)
      obtain ⟨_, _, _, _, o, _, _, e, _⟩ := hg.key r hr
      have := (Array.getElem?_eq_some_iff.1 e).1
      omega
    · exact hge
  have hH0 : ∀ i c, look i H = some c → i < nx := by
    intro i c e
    have hh := hs1.I.heap.holds i c e
    have : ∃ L, ρ i = some L := by
      cases c with
      | blk t l => obtain ⟨g, cap, vs, e, _⟩ := hh; exact ⟨_, e⟩
      | rb t l => obtain ⟨g, cap, vs, e, _⟩ := hh; exact ⟨_, e⟩
      | row t n sz c => obtain ⟨L, vs, e, _⟩ := hh; exact ⟨_, e⟩
      | ro n sz c => obtain ⟨L, vs, e, _⟩ := hh; exact ⟨_, e⟩
      | obj k => obtain ⟨b, cap, vs, e, _⟩ := hh; exact ⟨_, e⟩
      | fam => obtain ⟨L, e, _⟩ := hh; exact ⟨_, e⟩
    obtain ⟨L, hL⟩ := this
    exact hs1.I.dom i L hL
  refine wpIn_region_any hmx ?_
  have hgot0 : ∀ k, got (Array.replicate ops.size false) k = false := by
    intro k; unfold got; rw [Array.getD_eq_getD_getElem?, Array.getElem?_replicate]; split <;> rfl
  refine drawn_sound hC ht hcl hg hRl hmn hH0 hs1.m h hc hq ops.size _ a _ (by simp) (fun i c k hi => (by rw [hgot0] at hi; cases hi)) (by have := List.countP_le_length (p := fun i => !got (Array.replicate ops.size false) i) (l := List.range ops.size); simpa using this) ?_
  have hT0 : Interp F (fun i => i < nx) (fun k => look k (delKeys ops.toList m T)) (fun k => look k H) ρ a { w with drawn := w.drawn + 1 } := hs1.I.sub (fun _ _ _ h => h) (fun k v h => delKeys_look h) (fun _ _ h => h)
  have emptyT : ∀ {R : List Res} {D : Nat → Bool}, (∀ k, D k = false) → tE D R = [] ∧ hE D R = [] := by
    intro R D hD
    induction R with
    | nil => exact ⟨rfl, rfl⟩
    | cons r R ih => simp only [tE, hE, hD]; exact ih
  by_cases hm0 : m = 0
  · subst hm0
    have : R = [] := List.eq_nil_of_length_eq_zero hRl
    subst this
    refine .inr ⟨0, _, _, _, css1, ρ, Nat.le_refl _, Nat.zero_le _, fun i => ?_, h, ⟨hs1.m, ?_⟩⟩
    · rw [hgot0]; simp
    · simpa [tE, hE, nxOf] using hT0
  · refine .inl ⟨⟨0, by omega, hgot0 0⟩, fun i hi => (by rw [hgot0] at hi; cases hi), ρ, ?_⟩
    unfold Part
    obtain ⟨e1, e2⟩ := emptyT (R := R) hgot0
    rw [e1, e2]
    exact hT0.sub (fun i L _ h => .inl h) (fun _ _ h => by simpa using h) (fun _ _ h => by simpa using h)⟩

end
/-- How conditions are closed. -/
theorem sd {p : Prop} (h : p := by ((try simp only [AllL, All, cd_p, cp_p, cv_p, InK, and_true, true_and]); all_goals ((repeat' (first | refine And.intro ?_ ?_ | intro _)) <;> first | omega | exact True.intro | assumption | (simp; done) | rfl | (simp_all; done) | (simp_all; omega)))) : p := h
end Go.Sym
