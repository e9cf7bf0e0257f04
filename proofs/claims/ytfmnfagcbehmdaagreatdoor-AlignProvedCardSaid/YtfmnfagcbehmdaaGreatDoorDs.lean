/- What the cards of chapter 5 share. -/
import Derived.LaidMore
import Derived.Test.YtfmnfagcbehmdaaGreatDoorCards
import Derived.Test.YtfmnfagcbehmdaaGreatDoorTie
import Derived.ProofKit
import Derived.OpenShut
import Derived.Deep.SlicePairs
import Derived.Deep.Strs
import Derived.Deep.DeepHandedRow
import Derived.Lib.LaidTab
import Derived.LaidHandle
import Derived.Test.YtfmnfagcbehmdaaGreatDoorDx
set_option linter.unusedVariables false
set_option linter.unusedSimpArgs false
namespace Go.Proofs.YtfmnfagcbehmdaaGreatDoor
open Go.RowKit Go.Sym
open Go.ChangeShapes Go.WideShapes Go.ChangeAt

def intOf' : Value → Int
  | .int _ n => n
  | _ => 0
def strOf' : Value → ByteArray
  | .string s => s
  | _ => ⟨#[]⟩
def powZ : List Int := [1, 10, 100, 1000, 10000, 100000, 1000000, 10000000, 100000000, 1000000000, 10000000000, 100000000000, 1000000000000, 10000000000000, 100000000000000, 1000000000000000, 10000000000000000, 100000000000000000, 1000000000000000000, 10000000000000000000]
theorem pow10_at {W : World} (h : laidMetH Tryz.prog Rows.alignLeastRow.laid W) : ∃ t fr, W.heap[2]? = some (.cells (powZ.map fun z => Value.int .u64 z).toArray t fr) := by
  have h0 : laidMet Tryz.prog [("math/bits.deBruijn32tab", Rows.laid_math_bits_deBruijn32tab), ("math/bits.deBruijn64tab", Rows.laid_math_bits_deBruijn64tab), ("internal/strconv.uint64pow10", Lib.tabData .u64 powZ)] W := h.1
  obtain ⟨ps, ⟨_, _, _, _, _, _, _, _, _, _, ⟨_, _, _, _, _, _, _, _, _, _, ⟨g, t, cs, fuel, p, q, hg, ht, hvar, hd, _, _⟩, _⟩, _⟩, _⟩ := h0
  have gP : Tryz.prog.globalNamed "internal/strconv.uint64pow10" = some 2 := by kernel_rfl
  have gT : (Tryz.prog.globals[2]?).map (·.type) = some 297 := by kernel_rfl
  obtain rfl := Option.some.inj (gP.symm.trans hg)
  obtain rfl := Option.some.inj (gT.symm.trans ht)
  have hcs := Lib.cells_of_tab (n := 20) (e := 262) (by kernel_rfl) (by kernel_rfl) (by kernel_rfl) (by kernel_rfl) hd
  unfold World.var? at hvar
  rw [gP] at hvar
  simp only [Option.bind_some] at hvar
  split at hvar
  · rename_i cs' t' fr h1
    cases hvar
    refine ⟨t', fr, ?_⟩
    rw [h1, ← hcs]
  · cases hvar

set_option maxRecDepth 20000 in
theorem form_at {W : World} {fuel : Nat} {cs : List Value} {p : List MemPlace} {s : List UInt8} {b1 b2 : UInt8} {r1 r2 : List UInt8} {f1 f2 : FuncId}
    (h1 : ((List.range Tryz.prog.funcs.size).filter fun f => (Tryz.prog.funcs[f]?).any (·.name.toUTF8.data.toList == b1 :: r1)) = [f1])
    (h2 : ((List.range Tryz.prog.funcs.size).filter fun f => (Tryz.prog.funcs[f]?).any (·.name.toUTF8.data.toList == b2 :: r2)) = [f2])
    (h : DataW.trod (funcToken Tryz.prog) Tryz.prog W 0 (fun _ => true) true fuel 171 cs = some (.agg [.lit (.string s), .held (b1 :: r1), .held (b2 :: r2)], p)) : cs = [.string ⟨s.toArray⟩, .func (.func f1) #[] #[], .func (.func f2) #[] #[]] := by
  have hu : ∃ g0 g1 g2, Tryz.prog.underlying 171 = some (.struct #[g0, g1, g2]) ∧ g0.type = 9 ∧ (∃ ps rs va, Tryz.prog.underlying g1.type = some (.func ps rs va)) ∧ (∃ ps rs va, Tryz.prog.underlying g2.type = some (.func ps rs va)) ∧ Tryz.prog.cellsOf g1.type = 1 ∧ Tryz.prog.cellsOf g2.type = 1 ∧ g0.offset = 0 ∧ g1.offset = 1 ∧ g2.offset = 2 := ⟨_, _, _, Tryz.underlying171, rfl, ⟨_, _, _, Tryz.underlying168⟩, ⟨_, _, _, Tryz.underlying169⟩, by kernel_rfl, by kernel_rfl, rfl, rfl, rfl⟩
  obtain ⟨g0, g1, g2, hu, t0, ⟨_, _, _, u1⟩, ⟨_, _, _, u2⟩, c1, c2, o0, o1, o2⟩ := hu
  have hts : Tryz.prog.underlying 9 = some .string := by kernel_rfl
  have cs3 : Tryz.prog.cellsOf 9 = 1 := by kernel_rfl
  have c3 : Tryz.prog.cellsOf 171 = 3 := by kernel_rfl
  obtain ⟨y0, y1, y2, n, hx, hl, k0, k1, k2⟩ := Deep.trod_struct3 hu h
  rw [t0, cs3, o0] at k0
  rw [c1, o1] at k1
  rw [c2, o2] at k2
  rw [c3] at hl
  obtain ⟨s0, e0, e3, _⟩ := DataW.trod_string hts k0
  simp only [Prod.mk.injEq, DataW.agg.injEq, List.cons.injEq, and_true] at hx
  obtain ⟨⟨x0, x1, x2⟩, _⟩ := hx
  match cs, hl with
  | [a, b, c], _ =>
    simp at e0 k1 k2
    obtain ⟨y1a, y1b⟩ := y1
    obtain ⟨y2a, y2b⟩ := y2
    dsimp only at x1 x2
    subst x1
    subst x2
    have q1 := func_of_trod u1 h1 k1
    have q2 := func_of_trod u2 h2 k2
    rw [e3] at x0
    simp only [DataW.lit.injEq, Lit.string.injEq] at x0
    subst x0
    rw [q1, q2, e0]

def formsV : List Value := [.string ⟨#[109, 97, 114, 107]⟩, .func (.func 231) #[] #[], .func (.func 232) #[] #[], .string ⟨#[115, 105, 103, 104, 116]⟩, .func (.func 233) #[] #[], .func (.func 234) #[] #[]]
set_option maxRecDepth 20000 in
theorem forms_at {W : World} (h : laidMetH Tryz.prog Rows.alignLeastRow.laid W) : ∃ t fr, W.heap[0]? = some (.cells formsV.toArray t fr) := by
  have hF := laidMetH.funcs h (n := "versine/align.forms") (List.mem_cons_of_mem _ (List.mem_cons_of_mem _ (List.mem_cons_of_mem _ List.mem_cons_self)))
  obtain ⟨g, t, cs, fuel, p, hg, ht, hvar, hd⟩ := hF
  have gP : Tryz.prog.globalNamed "versine/align.forms" = some 0 := by kernel_rfl
  have gT : (Tryz.prog.globals[0]?).map (·.type) = some 172 := by kernel_rfl
  obtain rfl := Option.some.inj (gP.symm.trans hg)
  obtain rfl := Option.some.inj (gT.symm.trans ht)
  have hta : Tryz.prog.underlying 172 = some (.array 2 171) := by kernel_rfl
  have ca : Tryz.prog.cellsOf 172 = 6 := by kernel_rfl
  have cf : Tryz.prog.cellsOf 171 = 3 := by kernel_rfl
  obtain ⟨xs, m, _, hx, hl, hlen, hi⟩ := DataW.trod_array hta hd
  rw [ca] at hl
  have i0 := hi 0 (by decide)
  have i1 := hi 1 (by decide)
  rw [cf] at i0 i1
  match xs, hlen with
  | [y0, y1], _ =>
    obtain ⟨y0a, y0b⟩ := y0
    obtain ⟨y1a, y1b⟩ := y1
    have hx1 : (DataW.agg [DataW.agg [.lit (.string [109, 97, 114, 107]), .held [118, 101, 114, 115, 105, 110, 101, 47, 97, 108, 105, 103, 110, 46, 109, 97, 121, 77, 97, 114, 107], .held [118, 101, 114, 115, 105, 110, 101, 47, 97, 108, 105, 103, 110, 46, 97, 100, 100, 77, 97, 114, 107]], DataW.agg [.lit (.string [115, 105, 103, 104, 116]), .held [118, 101, 114, 115, 105, 110, 101, 47, 97, 108, 105, 103, 110, 46, 109, 97, 121, 83, 105, 103, 104, 116], .held [118, 101, 114, 115, 105, 110, 101, 47, 97, 108, 105, 103, 110, 46, 97, 100, 100, 83, 105, 103, 104, 116]]] : DataW (List UInt8)) = .agg [y0a, y1a] := congrArg Prod.fst hx
    simp only [DataW.agg.injEq, List.cons.injEq, and_true] at hx1
    obtain ⟨rfl, rfl⟩ := hx1
    have q0 := form_at (f1 := 231) (f2 := 232) (by kernel_rfl) (by kernel_rfl) i0
    have q1 := form_at (f1 := 233) (f2 := 234) (by kernel_rfl) (by kernel_rfl) i1
    obtain ⟨l⟩ := cs
    have hl6 : l.length = 6 := hl
    have hcs : l = formsV := by
      match l, hl6 with
      | [a, b, c, d, e, f], _ =>
        simp only [Nat.zero_mul, Nat.one_mul, List.drop_zero, List.drop_succ_cons, List.take_succ_cons, List.take_zero, List.cons.injEq, and_true] at q0 q1
        obtain ⟨rfl, rfl, rfl⟩ := q0
        obtain ⟨rfl, rfl, rfl⟩ := q1
        rfl
    subst hcs
    unfold World.var? at hvar
    rw [gP] at hvar
    simp only [Option.bind_some] at hvar
    split at hvar
    · rename_i cs' t' fr h1
      cases hvar
      exact ⟨t', fr, h1⟩
    · cases hvar

end Go.Proofs.YtfmnfagcbehmdaaGreatDoor

namespace Go.Proofs.YtfmnfagcbehmdaaGreatDoor
open Go.RowKit Go.Sym
open Go.ChangeShapes Go.WideShapes Go.ChangeAt

theorem ownGodebug : ownKnob Tryz.prog.godebug = none := by kernel_rfl
theorem laidOutP : laidOutB Tryz.prog = true := by kernel_rfl
theorem and_tt {a b : Bool} (h : a = true) (k : b = true) : (a && b) = true := by rw [h, k]; rfl
theorem mapsRowedP : mapsRowed Tryz.prog = true := by kernel_rfl
theorem keysP : (Rows.alignLeastRow.plainKeys == Tryz.prog.plainKeys) = true := by kernel_rfl
theorem heardP : Tryz.prog.stopsHeard = true := by kernel_rfl
theorem mayP : Tryz.prog.mayEnter = true := by kernel_rfl
theorem liftsP : (Rows.alignLeastRow.lifted == Tryz.prog.liftsFinal) = true := by kernel_rfl
theorem makeP : (Tryz.prog.make == some Rows.alignLeastRow.make) = true := by kernel_rfl
theorem trodAll_stays {H : Type} {enc : TypeId × Value → H} {W W' : World} {sp' : Nat → Bool} : ∀ {ts : List TypeId} {vs : List Value} {ds : List (DataW H)} {ps : List MemPlace},
    (∀ t ∈ ts, Tryz.prog.readableRec t = true ∧ t < Tryz.prog.types.size) → DataW.TrodAll enc Tryz.prog W 0 (fun _ => true) true ts vs ds ps → (∀ p ∈ ps, W.sameAt W' p) → (∀ p ∈ ps, sp' p.block = true) → DataW.TrodAll enc Tryz.prog W' 0 sp' true ts vs ds ps
  | [], [], [], _, _, h, _, _ => h
  | [], _ :: _, _, _, _, h, _, _ => h.elim
  | [], [], _ :: _, _, _, h, _, _ => h.elim
  | _ :: _, [], _, _, _, h, _, _ => h.elim
  | _ :: _, _ :: _, [], _, _, h, _, _ => h.elim
  | t :: ts, v :: vs, d :: ds, ps, hr, ⟨p, q, h1, h2, e⟩, hs, hp => by
    subst e
    have ht := hr t List.mem_cons_self
    exact ⟨p, q, WideElems.Trod_stays laidOutP ht.1 ht.2 h1 (fun x hx => hs x (List.mem_append_left _ hx)) (fun x hx => hp x (List.mem_append_left _ hx)),
      trodAll_stays (fun t ht => hr t (List.mem_cons_of_mem _ ht)) h2 (fun x hx => hs x (List.mem_append_right _ hx)) (fun x hx => hp x (List.mem_append_right _ hx)), rfl⟩

/-- What a law leaves: true, and all as it was. -/
theorem law_post {H : Type} {enc : TypeId × Value → H} {f : Func} {s : ChangeSpec} {W W' : World} {args : Array Value} {ds gs : List (DataW H)} {before : List MemPlace} (hvars : s.vars = [])
    (hW : DataW.Whole enc Tryz.prog f.params.toList s.vars false W args.toList ds gs before) (hfn : s.fn H ds = { results := [.lit (.bool true)], args := ds }) (hres : f.resultTypes = #[4])
    (hread : ∀ t ∈ f.params.toList, Tryz.prog.readableRec t = true ∧ t < Tryz.prog.types.size) (hB : Below W.heap.size W W') : s.post enc Tryz.prog f false true false false W args (.bool true) W' := by
  have hub : Tryz.prog.underlying 4 = some .bool := by kernel_rfl
  have hW' := hW
  obtain ⟨p, q, hA, hV, rfl, hfz, hnd⟩ := hW
  rw [hvars] at hV
  obtain ⟨rfl, rfl⟩ := trodVars_none hV
  have hlt : ∀ x ∈ p ++ [], x.block < W.heap.size := fun x hx => hW'.lt x hx
  simp only [List.append_nil] at hlt
  have hold : ∀ x ∈ p, (fun b => decide (b < W.heap.size)) x.block = true := fun x hx => by simpa using hlt x hx
  have hargs : ∀ sp : Nat → Bool, (∀ x ∈ p, sp x.block = true) → DataW.TrodAll enc Tryz.prog W' 0 sp true f.params.toList args.toList ds p := fun sp hsp => trodAll_stays hread hA (fun x hx => hB.same (hlt x hx)) hsp
  have hresult : ∀ (b : Nat) (sp : Nat → Bool) (hd : Bool), DataW.TrodAll enc Tryz.prog W' b sp hd f.resultTypes.toList ((Value.bool true).resultList f.resultTypes.size) [.lit (.bool true)] [] := fun _ _ _ => by
    rw [hres]
    exact trodAll_cons_mk (shut_bool hub _) trodAll_mk0
  have e : s.fn H (ds ++ []) = { results := [.lit (.bool true)], args := ds } := by rw [List.append_nil]; exact hfn
  refine ⟨ds, [], p ++ [], [], p, [], hW', ?_, ?_, ?_, hB.frame _, fun _ => ?_⟩
  · rw [e]; exact hresult _ _ _
  · rw [e]; exact hargs _ hold
  · rw [e, hvars]; rfl
  · rename_i h; cases h

/-- What a law's run gives. -/
theorem law_done {hin hout : List (Nat × Chunk)} {ρ : Env} {w w' : World} {e : Ending} (hno : ∀ i c, Sym.look i hin = some c → c.own = false) (h : CallPost hin hout (bl true) ρ w e w') : e = .returned (.bool true) ∧ Below w.heap.size w w' := by
  obtain ⟨ρ', v, rfl, h1, _, _, _, h2⟩ := h
  have hv : v = .bool true := by simp only [AV.den, Option.some.injEq] at h1; exact h1.symm
  subst hv
  refine ⟨rfl, h2.below fun g _ hg => ?_⟩
  obtain ⟨i, c, e, ho, _⟩ := hg
  rw [hno i c e] at ho
  cases ho
theorem lawIn_no (t : List (Nat × Chunk)) (h : t.all (fun x => !x.2.own) = true) : ∀ i c, Sym.look i t = some c → c.own = false := by
  intro i c e
  have := List.all_eq_true.1 h (i, c) (look_mem e)
  simpa using this

theorem rd_len {w : World} {B sz n : Nat} {v : Value} {cs : List Value} (h : Rd w B sz v n cs) : n ≤ 9223372036854775807 := by
  obtain ⟨_, A, c, _, h1, h2, _⟩ := h
  unfold maxLen at h2
  omega

/-- Where the arguments lie. -/
def lawEnv (l : List Value) : Env := fun i => match i with
  | 0 => some ⟨some ⟨2, 0, none⟩, 0⟩
  | 1 => some ⟨some ⟨0, 0, none⟩, 0⟩
  | k + 2 => (l[k]?).map locV
theorem pw_holds {W : World} {l : List Value} (h : ∃ t fr, W.heap[2]? = some (.cells (powZ.map fun z => Value.int .u64 z).toArray t fr)) : pwC.holds (lawEnv l) 0 W := by
  obtain ⟨t, fr, h⟩ := h
  exact ⟨_, _, _, rfl, rfl, t, fr, h⟩
theorem fm_holds {W : World} {l : List Value} (h : ∃ t fr, W.heap[0]? = some (.cells formsV.toArray t fr)) : fmC.holds (lawEnv l) 1 W := by
  obtain ⟨t, fr, h⟩ := h
  exact ⟨_, _, _, rfl, rfl, t, fr, h⟩

/-- A block's cells set anew. -/
def setCells (h : Array Obj) (g : Nat) (cs : Array Value) : Array Obj := h.modify g fun
  | .cells _ t frozen => .cells cs t frozen
  | o => o
/-- A world whose tables are laid. -/
noncomputable def laidHeap (h : Array Obj) : Array Obj :=
  setCells (setCells (setCells (setCells h 0 formsV.toArray) 2 (powZ.map fun z => Value.int .u64 z).toArray) 5 ([0, 1, 28, 2, 29, 14, 24, 3, 30, 22, 20, 15, 25, 17, 4, 8, 31, 27, 13, 23, 21, 19, 16, 7, 26, 12, 18, 6, 11, 5, 10, 9].map fun z => Value.int .u8 z).toArray) 6 ([0, 1, 56, 2, 57, 49, 28, 3, 61, 58, 42, 50, 38, 29, 17, 4, 62, 47, 59, 36, 45, 43, 51, 22, 53, 39, 33, 30, 24, 18, 12, 5, 63, 55, 48, 27, 60, 41, 37, 16, 46, 35, 44, 21, 52, 32, 23, 11, 54, 26, 40, 15, 34, 20, 31, 10, 25, 14, 19, 9, 13, 8, 7, 6].map fun z => Value.int .u8 z).toArray
noncomputable def laidW (os : Os) : World := { World.holding Tryz.prog os ⟨#[], #[], []⟩ with heap := laidHeap (World.holding Tryz.prog os ⟨#[], #[], []⟩).heap }

end Go.Proofs.YtfmnfagcbehmdaaGreatDoor
