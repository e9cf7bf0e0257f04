/- Contracts in the old style, for the runner: folded readings, slices.Repeat. -/
import Derived.Test.YtbpffadffbgloaaGreatDoorH
import Derived.Test.YtbpffadffbgloaaGreatDoorShelf
import Derived.Test.YtbpffadffbgloaaGreatDoorG
import Derived.Test.YtbpffadffbgloaaGreatDoorSymT
import Derived.Test.YtbpffadffbgloaaGreatDoorSymP
import Derived.Test.YtbpffadffbgloaaGreatDoorSymU
set_option linter.unusedVariables false
set_option linter.unusedSimpArgs false
namespace Go.Proofs.YtbpffadffbgloaaGreatDoor
open Go.RowKit Go.Shelf Go.Sym

def intsV : List AV → Option (List Int)
  | [] => some []
  | .lit (.int .i64 x) :: l => match intsV l with | some m => some (x :: m) | none => none
  | _ => none
def boolsV : List AV → Option (List Bool)
  | [] => some []
  | .lit (.bool x) :: l => match boolsV l with | some m => some (x :: m) | none => none
  | _ => none
def pairsV : List AV → Option (List (Int × Int))
  | [] => some []
  | .lit (.int .i64 x) :: .lit (.int .i64 y) :: l => match pairsV l with | some m => some ((x, y) :: m) | none => none
  | _ => none
theorem intsV_eq : ∀ {l : List AV} {m : List Int}, intsV l = some m → l = (ints m).map AV.lit
  | [], m, h => by cases h; rfl
  | .lit (.int .i64 x) :: l, m, h => by
    simp only [intsV] at h
    split at h
    · rename_i m' h'; cases h; rw [intsV_eq h']; rfl
    · cases h
theorem boolsV_eq : ∀ {l : List AV} {m : List Bool}, boolsV l = some m → l = (bools m).map AV.lit
  | [], m, h => by cases h; rfl
  | .lit (.bool x) :: l, m, h => by
    simp only [boolsV] at h
    split at h
    · rename_i m' h'; cases h; rw [boolsV_eq h']; rfl
    · cases h
theorem pairsV_eq : ∀ {l : List AV} {m : List (Int × Int)}, pairsV l = some m → l = (spans m).map AV.lit
  | [], m, h => by cases h; rfl
  | .lit (.int .i64 x) :: .lit (.int .i64 y) :: l, m, h => by
    simp only [pairsV] at h
    split at h
    · rename_i m' h'; cases h; rw [pairsV_eq h']; rfl
    · cases h
/-- A row that can be read. -/
def roAt (H : List (Nat × Chunk)) (i : Nat) : Option (Nat × Nat × Cont) := match Sym.look i H with
  | some (.ro n sz c) => some (n, sz, c)
  | some (.row _ n sz c) => some (n, sz, c)
  | _ => none

theorem rd_of_ro {ρ : Env} {w : World} {k n sz : Nat} {c : Cont} {vs : List Value} (h : (Chunk.ro n sz c).holds ρ k w) (hc : c.cells = vs.map AV.lit) (hz : 0 < sz) : ∃ L, ρ k = some L ∧ Rd w w.heap.size sz (.slice L.ad n L.cap) n vs := by
  obtain ⟨L, us, h1, h2, h3, h4, h5, h6⟩ := h
  rw [hc, denL_lits] at h2
  cases h2
  refine ⟨L, h1, h3, _, _, rfl, h4, Nat.le_trans h5 (capOk_le _), fun hn => ?_⟩
  obtain ⟨ad, e, h7⟩ := h6 (Nat.mul_pos hn hz)
  have hlt : 0 < vs.length := by rw [h3]; exact Nat.mul_pos hn hz
  refine ⟨ad, e, ?_, h7⟩
  have := World.block_lt_of_cell? w _ (h7 0 vs[0] (by simp [hlt]))
  rwa [addr_block'] at this

def locV : Value → Sym.Loc
  | .slice A _ c => ⟨A, c⟩
  | _ => ⟨none, 0⟩
theorem ro_of_rd {ρ : Env} {w : World} {B k n sz : Nat} {v : Value} {c : Cont} {vs : List Value} (h : Rd w B sz v n vs) (hk : ρ k = some (locV v)) (hc : c.cells = vs.map AV.lit) (hz : 0 < sz := by decide) : (Chunk.ro n sz c).holds ρ k w ∧ (AV.sl k n).den ρ = some v := by
  obtain ⟨h1, A, cap, rfl, h2, h3, h4⟩ := h
  refine ⟨⟨_, vs, hk, by rw [hc, denL_lits], h1, h2, by rw [capOk_pos hz]; exact h3, fun h0 => ?_⟩, by simp [AV.den, hk, locV]⟩
  obtain ⟨ad, e1, _, e2⟩ := h4 (Nat.pos_of_mul_pos_right h0)
  exact ⟨ad, e1, e2⟩

/-- A trace and an error, in the runs' style. -/
def trOut (N : Nat) (T : Tr) (cv ch : Cont) : List (Nat × Chunk) := [(N, .row 3 T.vals.length 1 cv), (N + 1, .row 102 T.holes.length 2 ch)]
def trRet (N : Nat) (T : Tr) : AV := .agg [i64 T.first, .sl N T.vals.length, .sl (N + 1) T.holes.length]
theorem own_base0 {w : World} {base n sz : Nat} {e : TypeId} {v : Value} {xs : List Value} (h : w.ownsRow base e sz v n xs) : w.ownsRow 0 e sz v n xs := by
  refine ⟨h.1, ?_⟩
  rcases h.2 with h2 | ⟨g, cap, cur, hv, hg, r⟩
  · exact .inl h2
  · exact .inr ⟨g, cap, cur, hv, Nat.zero_le _, r⟩
theorem row_of_own {ρ : Env} {w : World} {base k n sz : Nat} {e : TypeId} {v : Value} {c : Cont} {vs : List Value} (h : w.ownsRow base e sz v n vs) (hk : ρ k = some (locV v)) (hc : c.cells = vs.map AV.lit) : (Chunk.row e n sz c).holds ρ k w ∧ (AV.sl k n).den ρ = some v := by
  have h0 := own_base0 h
  obtain ⟨A, cap, rfl, _⟩ := own_form h
  exact ⟨⟨_, vs, hk, by rw [hc, denL_lits], h0⟩, by simp [AV.den, hk, locV]⟩
theorem post_of_own {hin : List (Nat × Chunk)} {ρ : Env} {w w' : World} {r : Ending} {T : Tr × Int} {N : Nat} {cv ch : Cont} (hdom : ∀ i L, ρ i = some L → (Sym.look i hin).isSome = true) (hN : Sym.look N hin = none) (hN1 : Sym.look (N + 1) hin = none)
    (hv : cv.cells = (ints T.1.vals).map AV.lit) (hh : ch.cells = (spans T.1.holes).map AV.lit) (h : OwnPost w T r w') : CallPost hin (trOut N T.1 cv ch) (.tup [trRet N T.1, i64 T.2]) ρ w r w' := by
  obtain ⟨vv, hv', base, hbase, rfl, h1, h2, hb⟩ := h
  have no : ∀ {k}, Sym.look k hin = none → ρ k = none := by
    intro k hk
    cases e : ρ k with
    | none => rfl
    | some L => have := hdom k L e; rw [hk] at this; cases this
  let ρ' : Env := fun i => if i = N then some (locV vv) else if i = N + 1 then some (locV hv') else ρ i
  have e1 : ρ' N = some (locV vv) := by simp [ρ']
  have e2 : ρ' (N + 1) = some (locV hv') := by simp [ρ']
  obtain ⟨a1, a2⟩ := row_of_own h1 e1 hv
  obtain ⟨b1, b2⟩ := row_of_own h2 e2 hh
  have occ : ∀ {v : Value} {n sz : Nat} {t : TypeId} {cs : List Value} {g k : Nat} {c : Cont}, w'.ownsRow base t sz v n cs → ρ' k = some (locV v) → (Chunk.row t n sz c).occ ρ' k g → v.ownBlock = some g := by
    rintro v n sz t cs g k c h hk ⟨L, a, e3, e4, rfl⟩
    obtain ⟨A, cap, rfl, _⟩ := own_form h
    rw [hk] at e3
    cases e3
    simp only [locV] at e4
    subst e4
    rfl
  have apart : ∀ g, (Chunk.row 3 T.1.vals.length 1 cv).occ ρ' N g → ¬ (Chunk.row 102 T.1.holes.length 2 ch).occ ρ' (N + 1) g := by
    intro g o1 o2
    have p1 := occ h1 e1 o1
    have p2 := occ h2 e2 o2
    rcases own_ne_own h1 h2 (by decide) with h3 | h3
    · rw [h3] at p1; cases p1
    · rw [p1, p2] at h3; exact h3 rfl
  refine ⟨ρ', _, rfl, ?_, fun i L e => ?_, ⟨fun i c e => ?_, fun i c e ho j d e' hne g hg => ?_⟩, fun g hg => ?_, Sym.Touch.of_below hb⟩
  · simp only [AV.den] at a2 b2
    simp only [AV.den, AV.denL, trRet, a2, b2, listO, Option.map_some]
    rfl
  · have : i ≠ N := by rintro rfl; rw [no hN] at e; cases e
    have h' : i ≠ N + 1 := by rintro rfl; rw [no hN1] at e; cases e
    simp [ρ', this, h', e]
  · simp only [trOut, look_cons] at e
    split at e
    · rename_i hi; subst hi; cases e; exact a1
    · split at e
      · rename_i hi; subst hi; cases e; exact b1
      · cases e
  · simp only [trOut, look_cons] at e e'
    split at e
    · rename_i hi; subst hi; cases e
      split at e'
      · rename_i hi; exact absurd hi hne
      · split at e'
        · rename_i hi; subst hi; cases e'; exact apart g hg
        · cases e'
    · split at e
      · rename_i hi; subst hi; cases e
        split at e'
        · rename_i hi; subst hi; cases e'; exact fun o => apart g o hg
        · cases e'
      · cases e
  · obtain ⟨i, c, e, ho⟩ := hg
    simp only [trOut, look_cons] at e
    split at e
    · rename_i hi; subst hi; cases e; exact .inl (Nat.le_trans hbase (own_base h1 (occ h1 e1 ho)))
    · split at e
      · rename_i hi; subst hi; cases e; exact .inl (Nat.le_trans hbase (own_base h2 (occ h2 e2 ho)))
      · cases e

def roOf : Nat × Nat × Cont → Chunk := fun x => .ro x.1 x.2.1 x.2.2
/-- readings.folded, where all is there. -/
def known88 (args : List AV) (H : List (Nat × Chunk)) : Option Inst :=
  match args with
  | [.agg [.lit (.int .i64 f), .sl i n, hv, .sl k m], .sl t q, .lit (.int .i64 a), .lit (.int .i64 b)] =>
    match roAt H i, roAt H k, roAt H t with
    | some (n', 1, c), some (m', 1, d), some (q', 2, e) => match intsV c.cells, boolsV d.cells, pairsV e.cells, (match hv with | .lit v => some (AV.lit v, [], []) | .sl j r => (match roAt H j with | some x => some (AV.sl j r, [(j, roOf x)], [(j, some j)]) | none => none) | _ => none) with
      | some l, some kn, some ts, some (hv', hh, hs) => match foldedS f l kn ts a b with
        | T => match decide (i ≠ k ∧ i ≠ t ∧ k ≠ t ∧ n' = n ∧ m' = m ∧ q' = q ∧ n = l.length ∧ m = kn.length ∧ q = ts.length ∧ kn.length = l.length ∧ 0 ≤ f ∧ f ≤ 100000000 ∧ l.length ≤ 4096 ∧ -100000 ≤ a ∧ a ≤ 100000 ∧ -100000 ≤ b ∧ b ≤ 100000 ∧ ts.length ≤ 4096) && l.all (fun x => decide (-1073741824 ≤ x ∧ x ≤ 1073741824)) && ts.all (fun x => decide ((-100000 ≤ x.1 ∧ x.1 ≤ 100000) ∧ (-100000 ≤ x.2 ∧ x.2 ≤ 100000))) &&
            (Nat.blt i 2000 && Nat.blt k 2000 && Nat.blt t 2000 && (match hs with | (j, _) :: _ => Nat.blt j 2000 | [] => true)) with
          | true => some ⟨110, [], (i, .ro n 1 c) :: (k, .ro m 1 d) :: (t, .ro q 2 e) :: hh, [.agg [.lit (.int .i64 f), .sl i n, hv', .sl k m], .sl t q, .lit (.int .i64 a), .lit (.int .i64 b)], trOut 2000 T.1 (.exp ((ints T.1.vals).map AV.lit)) (.exp ((spans T.1.holes).map AV.lit)), .tup [trRet 2000 T.1, i64 T.2], (i, some i) :: (k, some k) :: (t, some t) :: hs⟩
          | false => none
      | _, _, _, _ => none
    | _, _, _ => none
  | _ => none

def known100 (args : List AV) (H : List (Nat × Chunk)) : Option Inst :=
  match args with
  | [.sl i 1, .lit (.int .i64 n)] => match roAt H i with
    | some (1, 1, c) => match boolsV c.cells with
      | some [b] => match decide (0 ≤ n ∧ n ≤ 1048576) && Nat.blt i 2000 with
        | true => some ⟨77, [], [(i, .ro 1 1 c)], [.sl i 1, .lit (.int .i64 n)], [(2000, .row 4 n.toNat 1 (.exp (List.replicate n.toNat (.lit (.bool b)))))], .sl 2000 n.toNat, [(i, some i)]⟩
        | false => none
      | _ => none
    | _ => none
  | _ => none
def strsV : List AV → Option (List ByteArray)
  | [] => some []
  | .lit (.string x) :: l => match strsV l with | some m => some (x :: m) | none => none
  | _ => none
theorem strsV_eq : ∀ {l : List AV} {m : List ByteArray}, strsV l = some m → l = (m.map Value.string).map AV.lit
  | [], m, h => by cases h; rfl
  | .lit (.string x) :: l, m, h => by
    simp only [strsV] at h
    split at h
    · rename_i m' h'; cases h; rw [strsV_eq h']; rfl
    · cases h
def known106 (args : List AV) : Option Inst :=
  match args with
  | [.lit (.int .i64 n)] => match decide (0 ≤ n ∧ n < 100) with
    | true => some ⟨96, [], [], [.lit (.int .i64 n)], [], .lit (.string ⟨(Lib.decDigits n.toNat).toArray⟩), []⟩
    | false => none
  | _ => none
def known107 (args : List AV) (H : List (Nat × Chunk)) : Option Inst :=
  match args with
  | [.sl i n, .lit (.string sep)] => match Sym.look i H with
    | some (.row t m 1 c) => match strsV c.cells with
      | some xs => match decide (m = n ∧ n = xs.length ∧ xs.length ≤ 1048576 ∧ (Lib.join (xs.map (·.data.toList)) sep.data.toList).length ≤ 140737488355328) with
        | true => some ⟨97, [], [(i, .row t n 1 c)], [.sl i n, .lit (.string sep)], [(i, .row t n 1 c)], .lit (.string ⟨(Lib.join (xs.map (·.data.toList)) sep.data.toList).toArray⟩), [(i, some i)]⟩
        | false => none
      | none => none
    | _ => none
  | _ => none
def knownC (f : FuncId) (args : List AV) (_ : List (Nat × Nat)) (H : List (Nat × Chunk)) : Option Inst :=
  match Nat.beq f 110 with
  | true => known88 args H
  | false => match Nat.beq f 77 with
    | true => known100 args H
    | false => match Nat.beq f 96 with
      | true => known106 args
      | false => match Nat.beq f 97 with
        | true => known107 args H
        | false => none

/-- A call that gives a value and no memory. -/
theorem post_of_lit {hin : List (Nat × Chunk)} {ρ : Env} {w w' : World} {v : Value} (hb : Below w.heap.size w w') : CallPost hin [] (.lit v) ρ w (.returned v) w' :=
  ⟨ρ, v, rfl, by simp [AV.den], Env.le.refl _, ⟨fun i c e => (by cases e), fun i c e => (by cases e)⟩, fun g ⟨i, c, e, _⟩ => (by cases e), Sym.Touch.of_below hb⟩
theorem known106_ok {args : List AV} {I : Inst} (h : known106 args = some I) : I.ok Tryz.prog := by
  unfold known106 at h
  split at h
  · rename_i n
    split at h
    · rename_i hb
      have hb := of_decide_eq_true hb
      cases h
      refine ⟨⟨_, Tryz.func96, rfl⟩, fun ρ w vs _ _ _ hd => ?_⟩
      simp only [AV.denL, AV.den, listO, Option.some.injEq] at hd
      subst hd
      have := Tryz.strconv_Itoa_small n.toNat (by omega) w
      rw [Int.toNat_of_nonneg hb.1] at this
      refine this.mono ?_
      rintro e w' ⟨rfl, rfl⟩
      exact post_of_lit (Below.refl _ _)
    · cases h
  · cases h
/-- .. and leaves what it was given. -/
theorem post_of_keep {hin : List (Nat × Chunk)} {ρ : Env} {w w' : World} {v : Value} (hown : ∀ i c, Sym.look i hin = some c → c.own = true) (hh : Heap ρ (fun k => Sym.look k hin) w) (hb : Below w.heap.size w w') : CallPost hin hin (.lit v) ρ w (.returned v) w' :=
  ⟨ρ, v, rfl, by simp [AV.den], Env.le.refl _, hh.below hb, fun g ⟨i, c, e, h⟩ => .inr ⟨i, c, e, hown i c e, h⟩, Sym.Touch.of_below hb⟩
theorem known107_ok {args : List AV} {H : List (Nat × Chunk)} {I : Inst} (h : known107 args H = some I) : I.ok Tryz.prog := by
  unfold known107 at h
  split at h
  · rename_i i n sep
    split at h
    · rename_i t m c _
      split at h
      · rename_i xs hxs
        split at h
        · rename_i hb
          obtain ⟨rfl, rfl, hb1, hb2⟩ := of_decide_eq_true hb
          cases h
          refine ⟨⟨_, Tryz.func97, rfl⟩, fun ρ w vs _ _ hh hd => ?_⟩
          have hrow := hh.holds i _ (by rw [look_cons, if_pos rfl])
          obtain ⟨L, us, e1, e2, e3⟩ := hrow
          rw [strsV_eq hxs, denL_lits] at e2
          cases e2
          simp only [AV.denL, AV.den, e1, Option.map_some, listO, Option.some.injEq] at hd
          subst hd
          have hrun : Calls Tryz.prog 97 #[.slice L.ad xs.length L.cap, .string sep] w fun e w' => e = .returned (.string ⟨(Lib.join (xs.map (·.data.toList)) sep.data.toList).toArray⟩) ∧ Below w.heap.size w w' := by
            have none : xs = [] → Calls Tryz.prog 97 #[.slice L.ad xs.length L.cap, .string sep] w fun e w' => e = .returned (.string ⟨(Lib.join (xs.map (·.data.toList)) sep.data.toList).toArray⟩) ∧ Below w.heap.size w w' := by
              rintro rfl
              refine (Tryz.strings_Join_none L.ad L.cap sep w).mono ?_
              rintro e w' ⟨rfl, rfl⟩
              exact ⟨rfl, Below.refl _ _⟩
            rcases e3.2 with ⟨q1, q2⟩ | ⟨g, cap, cur, q1, q2, q3, q4, q5, q6, q7⟩
            · exact none (List.eq_nil_of_length_eq_zero q2)
            · injection q1 with q1 q8 q9
              rw [q1, q9]
              refine (Tryz.strings_Join g 0 cap xs sep w (fun j x hj => ?_) (Array.getElem?_eq_some_iff.1 q3).1 (by omega) q4 hb2).mono fun e w' h => h
              have := e3.cells (g := g) (by rw [q1]; rfl) j (.string x) (by rw [List.getElem?_map, hj]; rfl)
              rw [addr_zero] at this
              simpa using this
          refine hrun.mono ?_
          rintro e w' ⟨rfl, hbw⟩
          refine post_of_keep (fun j c e => ?_) hh hbw
          rw [look_cons] at e
          split at e
          · cases e; rfl
          · cases e
        · cases h
      · cases h
    · cases h
  · cases h

theorem row_of_blk {ρ : Env} {w : World} {k g n : Nat} {t : TypeId} {c : Cont} {vs : List Value} (hk : ρ k = some ⟨some ⟨g, 0, none⟩, n⟩) (hc : c.cells = vs.map AV.lit) (hl : vs.length = n) (hn : n ≤ maxLen) (hb : Blk w g t vs.toArray) : (Chunk.row t n 1 c).holds ρ k w :=
  ⟨_, vs, hk, by rw [hc, denL_lits], by simp [hl], .inr ⟨g, n, vs.toArray, rfl, Nat.zero_le _, hb, Nat.le_refl _, hn, by simp [hl], by subst hl; simp⟩⟩
theorem known100_ok {args : List AV} {H : List (Nat × Chunk)} {I : Inst} (h : known100 args H = some I) : I.ok Tryz.prog := by
  unfold known100 at h
  split at h
  · rename_i i n
    split at h
    · rename_i c _
      split at h
      · rename_i b hbs
        split at h
        · rename_i hb
          simp only [Bool.and_eq_true] at hb
          obtain ⟨h0, h1⟩ := of_decide_eq_true hb.1
          have hi : i < 2000 := Nat.le_of_ble_eq_true hb.2
          cases h
          refine ⟨⟨_, Tryz.func77, rfl⟩, fun ρ w vs hdom _ hh hd => ?_⟩
          obtain ⟨L, e1, e2⟩ := rd_of_ro (hh.holds i _ (by rw [look_cons, if_pos rfl])) (boolsV_eq hbs) (by decide)
          simp only [AV.denL, AV.den, e1, Option.map_some, listO, Option.some.injEq] at hd
          subst hd
          obtain ⟨q1, A, cap, q2, q3, q4, q5⟩ := e2
          injection q2 with q2 q6 q7
          obtain ⟨ad, p1, p2, p3⟩ := q5 (by decide)
          have hc0 := p3 0 (.bool b) rfl
          rw [q2, p1]
          have ha : ad.add 0 = ad := by simp [Addr.add]
          rw [ha] at hc0
          have := Repeat_c ad L.cap b n.toNat w hc0 (by omega)
          rw [Int.toNat_of_nonneg h0] at this
          refine this.mono ?_
          rintro e w' ⟨g, rfl, g1, g2, g3⟩
          have hno : ρ 2000 = none := by
            cases e : ρ 2000 with
            | none => rfl
            | some L' =>
              have := hdom 2000 L' e
              rw [look_cons, if_neg (by omega)] at this
              cases this
          let ρ' : Env := fun j => if j = 2000 then some ⟨some ⟨g, 0, none⟩, n.toNat⟩ else ρ j
          have e2000 : ρ' 2000 = some ⟨some ⟨g, 0, none⟩, n.toNat⟩ := by simp [ρ']
          have hrow : (Chunk.row 4 n.toNat 1 (.exp (List.replicate n.toNat (.lit (.bool b))))).holds ρ' 2000 w' :=
            row_of_blk (vs := List.replicate n.toNat (.bool b)) e2000 (by simp [Cont.cells]) (by simp) (by unfold maxLen; omega) g1
          have only : ∀ {j : Nat} {c : Chunk}, Sym.look j [(2000, Chunk.row 4 n.toNat 1 (.exp (List.replicate n.toNat (.lit (.bool b)))))] = some c → j = 2000 ∧ c = .row 4 n.toNat 1 (.exp (List.replicate n.toNat (.lit (.bool b)))) := by
            intro j c e
            rw [look_cons] at e
            split at e
            · rename_i hj; cases e; exact ⟨hj, rfl⟩
            · cases e
          refine ⟨ρ', _, rfl, by simp [AV.den, e2000], fun j L' e => ?_, ⟨fun j c e => ?_, fun j c e _ j' c' e' hne => ?_⟩, fun g' hg => ?_, Sym.Touch.of_below g3⟩
          · have : j ≠ 2000 := by rintro rfl; rw [hno] at e; cases e
            simp [ρ', this, e]
          · obtain ⟨rfl, rfl⟩ := only e
            exact hrow
          · obtain ⟨rfl, _⟩ := only e
            obtain ⟨rfl, _⟩ := only e'
            exact absurd rfl hne
          · obtain ⟨j, c, e, L', a', o1, o2, o3⟩ := (show ∃ j c, Sym.look j _ = some c ∧ ∃ L' a', ρ' j = some L' ∧ L'.ad = some a' ∧ a'.block = g' from by
              obtain ⟨j, c, e, ho⟩ := hg
              obtain ⟨rfl, rfl⟩ := only e
              exact ⟨_, _, e, ho⟩)
            obtain ⟨rfl, _⟩ := only e
            rw [e2000] at o1
            cases o1; cases o2; subst o3
            exact .inl g2
        · cases h
      · cases h
    · cases h
  · cases h

theorem known88_ok {args : List AV} {H : List (Nat × Chunk)} {I : Inst} (h : known88 args H = some I) : I.ok Tryz.prog := by
  unfold known88 at h
  split at h
  · rename_i f i n hv k m t q a b
    split at h
    · rename_i n' c m' d q' e _ _ _
      split at h
      · rename_i l kn ts hv' hh' hs h1 h2 h3 h4
        generalize hT : foldedS f l kn ts a b = TT at h
        split at h
        · rename_i hb
          simp only [Bool.and_eq_true] at hb
          obtain ⟨⟨⟨hb0, hb1⟩, hb2⟩, ⟨⟨hi, hk⟩, ht⟩, hj⟩ := hb
          obtain ⟨hik, hit, hkt, rfl, rfl, rfl, rfl, rfl, rfl, hkl, f0, f1, hl, a0, a1, b0, b1, htn⟩ := of_decide_eq_true hb0
          have hi : i < 2000 := Nat.le_of_ble_eq_true hi
          have hk : k < 2000 := Nat.le_of_ble_eq_true hk
          have ht : t < 2000 := Nat.le_of_ble_eq_true ht
          have hrest : ∀ x, 2000 ≤ x → Sym.look x hh' = none := by
            intro x hx
            split at h4
            · cases h4; rfl
            · split at h4
              · cases h4
                have hj : _ < 2000 := Nat.le_of_ble_eq_true hj
                rw [look_cons, if_neg (by omega)]; rfl
              · cases h4
            · cases h4
          cases h
          refine ⟨⟨_, Tryz.func110, rfl⟩, fun ρ w vs hdom _ hheap hd => ?_⟩
          obtain ⟨L1, p1, p2⟩ := rd_of_ro (hheap.holds i _ (by rw [look_cons, if_pos rfl])) (intsV_eq h1) (by decide)
          obtain ⟨L2, p3, p4⟩ := rd_of_ro (hheap.holds k _ (by rw [look_cons, if_neg (Ne.symm hik), look_cons, if_pos rfl])) (boolsV_eq h2) (by decide)
          obtain ⟨L3, p5, p6⟩ := rd_of_ro (hheap.holds t _ (by rw [look_cons, if_neg (Ne.symm hit), look_cons, if_neg (Ne.symm hkt), look_cons, if_pos rfl])) (pairsV_eq h3) (by decide)
          cases hvd : AV.den ρ hv' with
          | none => simp [AV.denL, AV.den, listO, hvd] at hd
          | some v =>
            simp only [AV.denL, AV.den, p1, p3, p5, hvd, Option.map_some, listO, Option.some.injEq] at hd
            subst hd
            have hlook : ∀ x, 2000 ≤ x → ∀ (r1 r2 r3 : Chunk), Sym.look x ((i, r1) :: (k, r2) :: (t, r3) :: hh') = none := by
              intro x hx r1 r2 r3
              rw [look_cons, if_neg (by omega), look_cons, if_neg (by omega), look_cons, if_neg (by omega)]
              exact hrest x hx
            refine (folded_own f a b _ v _ _ l kn ts w p2 p4 hkl p6 f0 f1 hl a0 a1 b0 b1 (fun x hx => of_decide_eq_true (List.all_eq_true.1 hb1 x hx)) htn (fun x hx => of_decide_eq_true (List.all_eq_true.1 hb2 x hx))).mono fun e w' h => ?_
            rw [hT] at h
            exact post_of_own hdom (hlook _ (by omega) _ _ _) (hlook _ (by omega) _ _ _) rfl rfl h
        · cases h
      · cases h
    · cases h
  · cases h

end Go.Proofs.YtbpffadffbgloaaGreatDoor
