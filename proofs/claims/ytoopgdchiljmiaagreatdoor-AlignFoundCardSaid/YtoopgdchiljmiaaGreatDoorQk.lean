/- Contracts in the old style, for the runner: slices.Repeat at integers, Itoa of small numbers, strings.Join. -/
import Derived.Test.YtoopgdchiljmiaaGreatDoorHk
import Derived.Test.YtoopgdchiljmiaaGreatDoorShelfK
import Derived.Lib.AppendIntMem
import Derived.Test.YtoopgdchiljmiaaGreatDoorSymT
import Derived.Test.YtoopgdchiljmiaaGreatDoorSymP
import Derived.Test.YtoopgdchiljmiaaGreatDoorSymU
set_option linter.unusedVariables false
set_option linter.unusedSimpArgs false
namespace Go.Proofs.YtoopgdchiljmiaaGreatDoor
open Go.RowKit Go.Shelf Go.Sym

def intsV : List AV → Option (List Int)
  | [] => some []
  | .lit (.int .i64 x) :: l => match intsV l with | some m => some (x :: m) | none => none
  | _ => none
def boolsV : List AV → Option (List Bool)
  | [] => some []
  | .lit (.bool x) :: l => match boolsV l with | some m => some (x :: m) | none => none
  | _ => none
theorem intsV_eq : ∀ {l : List AV} {m : List Int}, intsV l = some m → l = (ints m).map AV.lit
  | [], m, h => by cases h; rfl
  | .lit (.int .i64 x) :: l, m, h => by
    simp only [intsV] at h
    split at h
    · rename_i m' h'; cases h; rw [intsV_eq h']; rfl
    · cases h
theorem boolsV_eq : ∀ {l : List AV} {m : List Bool}, boolsV l = some m → l = (bools m).map AV.lit
  | [], m, h => by cases h; rfl
  | .lit (.bool x) :: l, m, h => by
    simp only [boolsV] at h
    split at h
    · rename_i m' h'; cases h; rw [boolsV_eq h']; rfl
    · cases h
/-- A row that can be read. -/
def roAt (H : List (Nat × Chunk)) (i : Nat) : Option (Nat × Nat × Cont) := match Sym.look i H with
  | some (.ro n sz c) => some (n, sz, c)
  | some (.row _ n sz c) => some (n, sz, c)
  | _ => none

theorem rd_of_ro {ρ : Env} {w : World} {k n sz : Nat} {c : Cont} {vs : List Value} (h : (Chunk.ro n sz c).holds ρ k w) (hc : c.cells = vs.map AV.lit) (hz : 0 < sz) : ∃ L, ρ k = some L ∧ Rd w w.heap.size sz (.slice L.ad n L.cap) n vs := by
  obtain ⟨L, us, h1, h2, h3, h4, h5, h6⟩ := h
  rw [hc, denL_lits] at h2
  cases h2
  refine ⟨L, h1, h3, _, _, rfl, h4, Nat.le_trans h5 (capOk_le _), fun hn => ?_⟩
  obtain ⟨ad, e, h7⟩ := h6 (Nat.mul_pos hn hz)
  have hlt : 0 < vs.length := by rw [h3]; exact Nat.mul_pos hn hz
  refine ⟨ad, e, ?_, h7⟩
  have := World.block_lt_of_cell? w _ (h7 0 vs[0] (by simp [hlt]))
  rwa [addr_block'] at this

def locV : Value → Sym.Loc
  | .slice A _ c => ⟨A, c⟩
  | _ => ⟨none, 0⟩
theorem ro_of_rd {ρ : Env} {w : World} {B k n sz : Nat} {v : Value} {c : Cont} {vs : List Value} (h : Rd w B sz v n vs) (hk : ρ k = some (locV v)) (hc : c.cells = vs.map AV.lit) (hz : 0 < sz := by decide) : (Chunk.ro n sz c).holds ρ k w ∧ (AV.sl k n).den ρ = some v := by
  obtain ⟨h1, A, cap, rfl, h2, h3, h4⟩ := h
  refine ⟨⟨_, vs, hk, by rw [hc, denL_lits], h1, h2, by rw [capOk_pos hz]; exact h3, fun h0 => ?_⟩, by simp [AV.den, hk, locV]⟩
  obtain ⟨ad, e1, _, e2⟩ := h4 (Nat.pos_of_mul_pos_right h0)
  exact ⟨ad, e1, e2⟩

theorem own_base0 {w : World} {base n sz : Nat} {e : TypeId} {v : Value} {xs : List Value} (h : w.ownsRow base e sz v n xs) : w.ownsRow 0 e sz v n xs := by
  refine ⟨h.1, ?_⟩
  rcases h.2 with h2 | ⟨g, cap, cur, hv, hg, r⟩
  · exact .inl h2
  · exact .inr ⟨g, cap, cur, hv, Nat.zero_le _, r⟩
theorem row_of_own {ρ : Env} {w : World} {base k n sz : Nat} {e : TypeId} {v : Value} {c : Cont} {vs : List Value} (h : w.ownsRow base e sz v n vs) (hk : ρ k = some (locV v)) (hc : c.cells = vs.map AV.lit) : (Chunk.row e n sz c).holds ρ k w ∧ (AV.sl k n).den ρ = some v := by
  have h0 := own_base0 h
  obtain ⟨A, cap, rfl, _⟩ := own_form h
  exact ⟨⟨_, vs, hk, by rw [hc, denL_lits], h0⟩, by simp [AV.den, hk, locV]⟩
def roOf : Nat × Nat × Cont → Chunk := fun x => .ro x.1 x.2.1 x.2.2
def known100 (args : List AV) (H : List (Nat × Chunk)) : Option Inst :=
  match args with
  | [.sl i 1, .lit (.int .i64 n)] => match roAt H i with
    | some (1, 1, c) => match intsV c.cells with
      | some [b] => match decide (0 ≤ n ∧ n ≤ 1048576) && Nat.blt i 2000 with
        | true => some ⟨104, [], [(i, .ro 1 1 c)], [.sl i 1, .lit (.int .i64 n)], [(2000, .row 3 n.toNat 1 (.exp (List.replicate n.toNat (.lit (.int .i64 b)))))], .sl 2000 n.toNat, [(i, some i)]⟩
        | false => none
      | _ => none
    | _ => none
  | _ => none
def strsV : List AV → Option (List ByteArray)
  | [] => some []
  | .lit (.string x) :: l => match strsV l with | some m => some (x :: m) | none => none
  | _ => none
theorem strsV_eq : ∀ {l : List AV} {m : List ByteArray}, strsV l = some m → l = (m.map Value.string).map AV.lit
  | [], m, h => by cases h; rfl
  | .lit (.string x) :: l, m, h => by
    simp only [strsV] at h
    split at h
    · rename_i m' h'; cases h; rw [strsV_eq h']; rfl
    · cases h
def known106 (args : List AV) : Option Inst :=
  match args with
  | [.lit (.int .i64 n)] => match decide (0 ≤ n ∧ n < 100) with
    | true => some ⟨197, [], [], [.lit (.int .i64 n)], [], .lit (.string ⟨(Lib.decDigits n.toNat).toArray⟩), []⟩
    | false => none
  | _ => none
def known107 (args : List AV) (H : List (Nat × Chunk)) : Option Inst :=
  match args with
  | [.sl i n, .lit (.string sep)] => match Sym.look i H with
    | some (.row t m 1 c) => match strsV c.cells with
      | some xs => match decide (m = n ∧ n = xs.length ∧ xs.length ≤ 1048576 ∧ (Lib.join (xs.map (·.data.toList)) sep.data.toList).length ≤ 140737488355328) with
        | true => some ⟨196, [], [(i, .row t n 1 c)], [.sl i n, .lit (.string sep)], [(i, .row t n 1 c)], .lit (.string ⟨(Lib.join (xs.map (·.data.toList)) sep.data.toList).toArray⟩), [(i, some i)]⟩
        | false => none
      | none => none
    | _ => none
  | _ => none
/-- The library's table of powers of ten. -/
abbrev powL : List AV := [.lit (.int .u64 1), .lit (.int .u64 10), .lit (.int .u64 100), .lit (.int .u64 1000), .lit (.int .u64 10000), .lit (.int .u64 100000), .lit (.int .u64 1000000), .lit (.int .u64 10000000), .lit (.int .u64 100000000), .lit (.int .u64 1000000000), .lit (.int .u64 10000000000), .lit (.int .u64 100000000000), .lit (.int .u64 1000000000000), .lit (.int .u64 10000000000000), .lit (.int .u64 100000000000000), .lit (.int .u64 1000000000000000), .lit (.int .u64 10000000000000000), .lit (.int .u64 100000000000000000), .lit (.int .u64 1000000000000000000), .lit (.int .u64 10000000000000000000)]
def Itoa_i (n : Int) (σ : Sym.Ren) : Inst := { f := 197, gl := [(2, 0)], hin := [(0, .rb 339 powL)], args := [i64 n], hout := [], ret := .lit (.string ⟨(Lib.itoa n).toArray⟩), σ := σ }
def known106g (args : List AV) (gl : List (Nat × Nat)) : Option Inst :=
  match args, Sym.look 2 gl with
  | [.lit (.int .i64 n)], some i => match decide (-9223372036854775808 ≤ n ∧ n ≤ 9223372036854775807) with
    | true => some (Itoa_i n [(0, some i)])
    | false => none
  | _, _ => none
def knownC (f : FuncId) (args : List AV) (gl : List (Nat × Nat)) (H : List (Nat × Chunk)) : Option Inst :=
  match Nat.beq f 104 with
  | true => known100 args H
  | false => match Nat.beq f 197 with
    | true => match known106 args with
      | some I => some I
      | none => known106g args gl
    | false => match Nat.beq f 196 with
      | true => known107 args H
      | false => none

/-- A call that gives a value and no memory. -/
theorem post_of_lit {hin : List (Nat × Chunk)} {ρ : Env} {w w' : World} {v : Value} (hb : Below w.heap.size w w') : CallPost hin [] (.lit v) ρ w (.returned v) w' :=
  ⟨ρ, v, rfl, by simp [AV.den], Env.le.refl _, ⟨fun i c e => (by cases e), fun i c e => (by cases e)⟩, fun g ⟨i, c, e, _⟩ => (by cases e), Sym.Touch.of_below hb⟩
theorem known106_ok {args : List AV} {I : Inst} (h : known106 args = some I) : I.ok Tryz.prog := by
  unfold known106 at h
  split at h
  · rename_i n
    split at h
    · rename_i hb
      have hb := of_decide_eq_true hb
      cases h
      refine ⟨⟨_, Tryz.func197, rfl⟩, fun ρ w vs _ _ _ hd => ?_⟩
      simp only [AV.denL, AV.den, listO, Option.some.injEq] at hd
      subst hd
      have := Tryz.strconv_Itoa_small n.toNat (by omega) w
      rw [Int.toNat_of_nonneg hb.1] at this
      refine this.mono ?_
      rintro e w' ⟨rfl, rfl⟩
      exact post_of_lit (Below.refl _ _)
    · cases h
  · cases h
theorem Itoa_s (n : Int) (σ : Sym.Ren) (h0 : -9223372036854775808 ≤ n) (h1 : n ≤ 9223372036854775807) : (Itoa_i n σ).ok Tryz.prog := by
  refine ⟨⟨_, Tryz.func197, rfl⟩, fun ρ w vs _ hgl hh hd => ?_⟩
  simp only [Itoa_i, AV.denL, AV.den, listO, Option.some.injEq] at hd
  subst hd
  obtain ⟨c, e⟩ := hgl 2 0 (List.mem_singleton.2 rfl)
  obtain ⟨g, cap, us, e1, e2, t, fr, e3⟩ := hh.holds 0 (.rb 339 powL) rfl
  rw [e] at e1
  cases e1
  have htab : Lib.TabIs Tryz.prog w "internal/strconv.uint64pow10" .u64 Lib.pow10Tab := by
    unfold Lib.TabIs World.var?
    rw [show Tryz.prog.globalNamed "internal/strconv.uint64pow10" = some 2 by kernel_rfl]
    simp only [Option.bind_some, e3]
    have : powL = (Lib.pow10Tab.map fun z => Value.int .u64 z).map AV.lit := by rfl
    rw [this, denL_lits] at e2
    cases e2
    rfl
  refine (Tryz.strconv_Itoa n h0 h1 w htab).mono ?_
  rintro e' w' ⟨rfl, k, os, rfl⟩
  have hb := Lib.below_grow w.heap.size w (Nat.le_refl _) k os
  refine ⟨ρ, _, rfl, by simp [Itoa_i, AV.den], Env.le.refl _, ⟨fun i c e => (by cases e), fun i c e => (by cases e)⟩, fun g ⟨i, c, e, _⟩ => (by cases e), Sym.Touch.of_below hb⟩
theorem known106g_ok {args : List AV} {gl : List (Nat × Nat)} {I : Inst} (h : known106g args gl = some I) : I.ok Tryz.prog := by
  unfold known106g at h
  split at h
  · split at h
    · rename_i hb
      cases h
      exact Itoa_s _ _ (of_decide_eq_true hb).1 (of_decide_eq_true hb).2
    · cases h
  · cases h
/-- .. and leaves what it was given. -/
theorem post_of_keep {hin : List (Nat × Chunk)} {ρ : Env} {w w' : World} {v : Value} (hown : ∀ i c, Sym.look i hin = some c → c.own = true) (hh : Heap ρ (fun k => Sym.look k hin) w) (hb : Below w.heap.size w w') : CallPost hin hin (.lit v) ρ w (.returned v) w' :=
  ⟨ρ, v, rfl, by simp [AV.den], Env.le.refl _, hh.below hb, fun g ⟨i, c, e, h⟩ => .inr ⟨i, c, e, hown i c e, h⟩, Sym.Touch.of_below hb⟩
theorem known107_ok {args : List AV} {H : List (Nat × Chunk)} {I : Inst} (h : known107 args H = some I) : I.ok Tryz.prog := by
  unfold known107 at h
  split at h
  · rename_i i n sep
    split at h
    · rename_i t m c _
      split at h
      · rename_i xs hxs
        split at h
        · rename_i hb
          obtain ⟨rfl, rfl, hb1, hb2⟩ := of_decide_eq_true hb
          cases h
          refine ⟨⟨_, Tryz.func196, rfl⟩, fun ρ w vs _ _ hh hd => ?_⟩
          have hrow := hh.holds i _ (by rw [look_cons, if_pos rfl])
          obtain ⟨L, us, e1, e2, e3⟩ := hrow
          rw [strsV_eq hxs, denL_lits] at e2
          cases e2
          simp only [AV.denL, AV.den, e1, Option.map_some, listO, Option.some.injEq] at hd
          subst hd
          have hrun : Calls Tryz.prog 196 #[.slice L.ad xs.length L.cap, .string sep] w fun e w' => e = .returned (.string ⟨(Lib.join (xs.map (·.data.toList)) sep.data.toList).toArray⟩) ∧ Below w.heap.size w w' := by
            have none : xs = [] → Calls Tryz.prog 196 #[.slice L.ad xs.length L.cap, .string sep] w fun e w' => e = .returned (.string ⟨(Lib.join (xs.map (·.data.toList)) sep.data.toList).toArray⟩) ∧ Below w.heap.size w w' := by
              rintro rfl
              refine (Tryz.strings_Join_none L.ad L.cap sep w).mono ?_
              rintro e w' ⟨rfl, rfl⟩
              exact ⟨rfl, Below.refl _ _⟩
            rcases e3.2 with ⟨q1, q2⟩ | ⟨g, cap, cur, q1, q2, q3, q4, q5, q6, q7⟩
            · exact none (List.eq_nil_of_length_eq_zero q2)
            · injection q1 with q1 q8 q9
              rw [q1, q9]
              refine (Tryz.strings_Join g 0 cap xs sep w (fun j x hj => ?_) (Array.getElem?_eq_some_iff.1 q3).1 (by omega) q4 hb2).mono fun e w' h => h
              have := e3.cells (g := g) (by rw [q1]; rfl) j (.string x) (by rw [List.getElem?_map, hj]; rfl)
              rw [addr_zero] at this
              simpa using this
          refine hrun.mono ?_
          rintro e w' ⟨rfl, hbw⟩
          refine post_of_keep (fun j c e => ?_) hh hbw
          rw [look_cons] at e
          split at e
          · cases e; rfl
          · cases e
        · cases h
      · cases h
    · cases h
  · cases h

theorem row_of_blk {ρ : Env} {w : World} {k g n : Nat} {t : TypeId} {c : Cont} {vs : List Value} (hk : ρ k = some ⟨some ⟨g, 0, none⟩, n⟩) (hc : c.cells = vs.map AV.lit) (hl : vs.length = n) (hn : n ≤ maxLen) (hb : Blk w g t vs.toArray) : (Chunk.row t n 1 c).holds ρ k w :=
  ⟨_, vs, hk, by rw [hc, denL_lits], by simp [hl], .inr ⟨g, n, vs.toArray, rfl, Nat.zero_le _, hb, Nat.le_refl _, hn, by simp [hl], by subst hl; simp⟩⟩
theorem known100_ok {args : List AV} {H : List (Nat × Chunk)} {I : Inst} (h : known100 args H = some I) : I.ok Tryz.prog := by
  unfold known100 at h
  split at h
  · rename_i i n
    split at h
    · rename_i c _
      split at h
      · rename_i b hbs
        split at h
        · rename_i hb
          simp only [Bool.and_eq_true] at hb
          obtain ⟨h0, h1⟩ := of_decide_eq_true hb.1
          have hi : i < 2000 := Nat.le_of_ble_eq_true hb.2
          cases h
          refine ⟨⟨_, Tryz.func104, rfl⟩, fun ρ w vs hdom _ hh hd => ?_⟩
          obtain ⟨L, e1, e2⟩ := rd_of_ro (hh.holds i _ (by rw [look_cons, if_pos rfl])) (intsV_eq hbs) (by decide)
          simp only [AV.denL, AV.den, e1, Option.map_some, listO, Option.some.injEq] at hd
          subst hd
          obtain ⟨q1, A, cap, q2, q3, q4, q5⟩ := e2
          injection q2 with q2 q6 q7
          obtain ⟨ad, p1, p2, p3⟩ := q5 (by decide)
          have hc0 := p3 0 (.int .i64 b) rfl
          rw [q2, p1]
          have ha : ad.add 0 = ad := by simp [Addr.add]
          rw [ha] at hc0
          have := Repeat_c ad L.cap b n.toNat w hc0 (by omega)
          rw [Int.toNat_of_nonneg h0] at this
          refine this.mono ?_
          rintro e w' ⟨g, rfl, g1, g2, g3⟩
          have hno : ρ 2000 = none := by
            cases e : ρ 2000 with
            | none => rfl
            | some L' =>
              have := hdom 2000 L' e
              rw [look_cons, if_neg (by omega)] at this
              cases this
          let ρ' : Env := fun j => if j = 2000 then some ⟨some ⟨g, 0, none⟩, n.toNat⟩ else ρ j
          have e2000 : ρ' 2000 = some ⟨some ⟨g, 0, none⟩, n.toNat⟩ := by simp [ρ']
          have hrow : (Chunk.row 3 n.toNat 1 (.exp (List.replicate n.toNat (.lit (.int .i64 b))))).holds ρ' 2000 w' :=
            row_of_blk (vs := List.replicate n.toNat (.int .i64 b)) e2000 (by simp [Cont.cells]) (by simp) (by unfold maxLen; omega) g1
          have only : ∀ {j : Nat} {c : Chunk}, Sym.look j [(2000, Chunk.row 3 n.toNat 1 (.exp (List.replicate n.toNat (.lit (.int .i64 b)))))] = some c → j = 2000 ∧ c = .row 3 n.toNat 1 (.exp (List.replicate n.toNat (.lit (.int .i64 b)))) := by
            intro j c e
            rw [look_cons] at e
            split at e
            · rename_i hj; cases e; exact ⟨hj, rfl⟩
            · cases e
          refine ⟨ρ', _, rfl, by simp [AV.den, e2000], fun j L' e => ?_, ⟨fun j c e => ?_, fun j c e _ j' c' e' hne => ?_⟩, fun g' hg => ?_, Sym.Touch.of_below g3⟩
          · have : j ≠ 2000 := by rintro rfl; rw [hno] at e; cases e
            simp [ρ', this, e]
          · obtain ⟨rfl, rfl⟩ := only e
            exact hrow
          · obtain ⟨rfl, _⟩ := only e
            obtain ⟨rfl, _⟩ := only e'
            exact absurd rfl hne
          · obtain ⟨j, c, e, L', a', o1, o2, o3⟩ := (show ∃ j c, Sym.look j _ = some c ∧ ∃ L' a', ρ' j = some L' ∧ L'.ad = some a' ∧ a'.block = g' from by
              obtain ⟨j, c, e, ho⟩ := hg
              obtain ⟨rfl, rfl⟩ := only e
              exact ⟨_, _, e, ho⟩)
            obtain ⟨rfl, _⟩ := only e
            rw [e2000] at o1
            cases o1; cases o2; subst o3
            exact .inl g2
        · cases h
      · cases h
    · cases h
  · cases h

theorem knownC_ok {f : FuncId} {args : List AV} {gl : List (Nat × Nat)} {H : List (Nat × Chunk)} {I : Inst} (h : knownC f args gl H = some I) : I.ok Tryz.prog := by
  unfold knownC at h
  split at h
  · exact known100_ok h
  · split at h
    · split at h
      · rename_i h1
        cases h
        exact known106_ok h1
      · exact known106g_ok h
    · split at h
      · exact known107_ok h
      · cases h

end Go.Proofs.YtoopgdchiljmiaaGreatDoor
