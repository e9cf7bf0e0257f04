/- What the cards of chapter 9 share. -/
import Derived.LaidMore
import Derived.Test.YtlhgddgoblliaaaGreatDoorCards
import Derived.Test.YtlhgddgoblliaaaGreatDoorTie
import Derived.ProofKit
import Derived.OpenShut
import Derived.Deep.SlicePairs
import Derived.Deep.Strs
import Derived.Deep.DeepHandedRow
import Derived.Lib.LaidTab
import Derived.LaidHandle
import Derived.Test.YtlhgddgoblliaaaGreatDoorPx
set_option linter.unusedVariables false
set_option linter.unusedSimpArgs false
namespace Go.Proofs.YtlhgddgoblliaaaGreatDoor
open Go.RowKit Go.Sym
open Go.ChangeShapes Go.WideShapes Go.ChangeAt

def powZ : List Int := [1, 10, 100, 1000, 10000, 100000, 1000000, 10000000, 100000000, 1000000000, 10000000000, 100000000000, 1000000000000, 10000000000000, 100000000000000, 1000000000000000, 10000000000000000, 100000000000000000, 1000000000000000000, 10000000000000000000]
theorem pow10_at {W : World} (h : laidMetH Tryz.prog Rows.planSequencesRow.laid W) : ∃ t fr, W.heap[4]? = some (.cells (powZ.map fun z => Value.int .u64 z).toArray t fr) := by
  have h0 : laidMet Tryz.prog [("math/bits.deBruijn32tab", Rows.laid_math_bits_deBruijn32tab), ("math/bits.deBruijn64tab", Rows.laid_math_bits_deBruijn64tab), ("internal/strconv.uint64pow10", Lib.tabData .u64 powZ), ("versine/plan.jobKinds", Rows.laid_versine_plan_jobKinds)] W := h
  obtain ⟨ps, ⟨_, _, _, _, _, _, _, _, _, _, ⟨_, _, _, _, _, _, _, _, _, _, ⟨g, t, cs, fuel, p, q, hg, ht, hvar, hd, _, _⟩, _⟩, _⟩, _⟩ := h0
  have gP : Tryz.prog.globalNamed "internal/strconv.uint64pow10" = some 4 := by kernel_rfl
  have gT : (Tryz.prog.globals[4]?).map (·.type) = some 271 := by kernel_rfl
  obtain rfl := Option.some.inj (gP.symm.trans hg)
  obtain rfl := Option.some.inj (gT.symm.trans ht)
  have hcs := Lib.cells_of_tab (n := 20) (e := 243) (by kernel_rfl) (by kernel_rfl) (by kernel_rfl) (by kernel_rfl) hd
  unfold World.var? at hvar
  rw [gP] at hvar
  simp only [Option.bind_some] at hvar
  split at hvar
  · rename_i cs' t' fr h1
    cases hvar
    refine ⟨t', fr, ?_⟩
    rw [h1, ← hcs]
  · cases hvar

def kindsV : List Value := [.string ⟨⟨[116, 97, 109, 112]⟩⟩, .string ⟨⟨[103, 114, 105, 110, 100]⟩⟩, .string ⟨⟨[119, 101, 108, 100]⟩⟩]
set_option maxRecDepth 20000 in
theorem kinds_at {W : World} (h : laidMetH Tryz.prog Rows.planSequencesRow.laid W) : ∃ t fr, W.heap[0]? = some (.cells kindsV.toArray t fr) := by
  have h0 : laidMet Tryz.prog [("math/bits.deBruijn32tab", Rows.laid_math_bits_deBruijn32tab), ("math/bits.deBruijn64tab", Rows.laid_math_bits_deBruijn64tab), ("internal/strconv.uint64pow10", Rows.laid_internal_strconv_uint64pow10), ("versine/plan.jobKinds", Rows.laid_versine_plan_jobKinds)] W := h
  obtain ⟨ps, ⟨_, _, _, _, _, _, _, _, _, _, ⟨_, _, _, _, _, _, _, _, _, _, ⟨_, _, _, _, _, _, _, _, _, _, ⟨g, t, cs, fuel, p, q, hg, ht, hvar, hd, _, _⟩, _⟩, _⟩, _⟩, _⟩ := h0
  have gP : Tryz.prog.globalNamed "versine/plan.jobKinds" = some 0 := by kernel_rfl
  have gT : (Tryz.prog.globals[0]?).map (·.type) = some 145 := by kernel_rfl
  obtain rfl := Option.some.inj (gP.symm.trans hg)
  obtain rfl := Option.some.inj (gT.symm.trans ht)
  have hta : Tryz.prog.underlying 145 = some (.array 3 9) := by kernel_rfl
  have hts : Tryz.prog.underlying 9 = some .string := by kernel_rfl
  have ca : Tryz.prog.cellsOf 145 = 3 := by kernel_rfl
  have cf : Tryz.prog.cellsOf 9 = 1 := by kernel_rfl
  obtain ⟨xs, m, _, hx, hl, hlen, hi⟩ := DataW.trod_array hta hd
  rw [ca] at hl
  have i0 := hi 0 (by decide)
  have i1 := hi 1 (by decide)
  have i2 := hi 2 (by decide)
  rw [cf] at i0 i1 i2
  match xs, hlen with
  | [y0, y1, y2], _ =>
    obtain ⟨s0, e0, f0, _⟩ := DataW.trod_string hts i0
    obtain ⟨s1, e1, f1, _⟩ := DataW.trod_string hts i1
    obtain ⟨s2, e2, f2, _⟩ := DataW.trod_string hts i2
    subst f0
    subst f1
    subst f2
    have hx1 : (DataW.agg [.lit (.string [116, 97, 109, 112]), .lit (.string [103, 114, 105, 110, 100]), .lit (.string [119, 101, 108, 100])]) = .agg [.lit (.string s0.data.toList), .lit (.string s1.data.toList), .lit (.string s2.data.toList)] := congrArg Prod.fst hx
    simp only [DataW.agg.injEq, List.cons.injEq, DataW.lit.injEq, Lit.string.injEq, and_true] at hx1
    obtain ⟨g0, g1, g2⟩ := hx1
    obtain ⟨⟨l0⟩⟩ := s0
    obtain ⟨⟨l1⟩⟩ := s1
    obtain ⟨⟨l2⟩⟩ := s2
    obtain rfl : [116, 97, 109, 112] = l0 := g0
    obtain rfl : [103, 114, 105, 110, 100] = l1 := g1
    obtain rfl : [119, 101, 108, 100] = l2 := g2
    obtain ⟨l⟩ := cs
    have hl3 : l.length = 3 := hl
    have hcs : l = kindsV := by
      match l, hl3 with
      | [a, b, c], _ =>
        simp only [Nat.zero_mul, Nat.one_mul, Nat.reduceMul, List.drop_zero, List.drop_succ_cons, List.take_succ_cons, List.take_zero, List.cons.injEq, and_true] at e0 e1 e2
        rw [e0, e1, e2]
        rfl
    subst hcs
    unfold World.var? at hvar
    rw [gP] at hvar
    simp only [Option.bind_some] at hvar
    split at hvar
    · rename_i cs' t' fr h1
      cases hvar
      exact ⟨t', fr, h1⟩
    · cases hvar

end Go.Proofs.YtlhgddgoblliaaaGreatDoor

namespace Go.Proofs.YtlhgddgoblliaaaGreatDoor
open Go.RowKit Go.Sym
open Go.ChangeShapes Go.WideShapes Go.ChangeAt

theorem ownGodebug : ownKnob Tryz.prog.godebug = none := by kernel_rfl
theorem laidOutP : laidOutB Tryz.prog = true := by kernel_rfl
theorem and_tt {a b : Bool} (h : a = true) (k : b = true) : (a && b) = true := by rw [h, k]; rfl
theorem mapsRowedP : mapsRowed Tryz.prog = true := by kernel_rfl
theorem keysP : (Rows.planSequencesRow.plainKeys == Tryz.prog.plainKeys) = true := by kernel_rfl
theorem heardP : Tryz.prog.stopsHeard = true := by kernel_rfl
theorem mayP : Tryz.prog.mayEnter = true := by kernel_rfl
theorem liftsP : (Rows.planSequencesRow.lifted == Tryz.prog.liftsFinal) = true := by kernel_rfl
theorem makeP : (Tryz.prog.make == some Rows.planSequencesRow.make) = true := by kernel_rfl
theorem trodAll_stays {H : Type} {enc : TypeId × Value → H} {W W' : World} {sp' : Nat → Bool} : ∀ {ts : List TypeId} {vs : List Value} {ds : List (DataW H)} {ps : List MemPlace},
    (∀ t ∈ ts, Tryz.prog.readableRec t = true ∧ t < Tryz.prog.types.size) → DataW.TrodAll enc Tryz.prog W 0 (fun _ => true) true ts vs ds ps → (∀ p ∈ ps, W.sameAt W' p) → (∀ p ∈ ps, sp' p.block = true) → DataW.TrodAll enc Tryz.prog W' 0 sp' true ts vs ds ps
  | [], [], [], _, _, h, _, _ => h
  | [], _ :: _, _, _, _, h, _, _ => h.elim
  | [], [], _ :: _, _, _, h, _, _ => h.elim
  | _ :: _, [], _, _, _, h, _, _ => h.elim
  | _ :: _, _ :: _, [], _, _, h, _, _ => h.elim
  | t :: ts, v :: vs, d :: ds, ps, hr, ⟨p, q, h1, h2, e⟩, hs, hp => by
    subst e
    have ht := hr t List.mem_cons_self
    exact ⟨p, q, WideElems.Trod_stays laidOutP ht.1 ht.2 h1 (fun x hx => hs x (List.mem_append_left _ hx)) (fun x hx => hp x (List.mem_append_left _ hx)),
      trodAll_stays (fun t ht => hr t (List.mem_cons_of_mem _ ht)) h2 (fun x hx => hs x (List.mem_append_right _ hx)) (fun x hx => hp x (List.mem_append_right _ hx)), rfl⟩

/-- What a law leaves: true, and all as it was. -/
theorem law_post {H : Type} {enc : TypeId × Value → H} {f : Func} {s : ChangeSpec} {W W' : World} {args : Array Value} {ds gs : List (DataW H)} {before : List MemPlace} (hvars : s.vars = [])
    (hW : DataW.Whole enc Tryz.prog f.params.toList s.vars false W args.toList ds gs before) (hfn : s.fn H ds = { results := [.lit (.bool true)], args := ds }) (hres : f.resultTypes = #[4])
    (hread : ∀ t ∈ f.params.toList, Tryz.prog.readableRec t = true ∧ t < Tryz.prog.types.size) (hB : Below W.heap.size W W') : s.post enc Tryz.prog f false true false false W args (.bool true) W' := by
  have hub : Tryz.prog.underlying 4 = some .bool := by kernel_rfl
  have hW' := hW
  obtain ⟨p, q, hA, hV, rfl, hfz, hnd⟩ := hW
  rw [hvars] at hV
  obtain ⟨rfl, rfl⟩ := trodVars_none hV
  have hlt : ∀ x ∈ p ++ [], x.block < W.heap.size := fun x hx => hW'.lt x hx
  simp only [List.append_nil] at hlt
  have hold : ∀ x ∈ p, (fun b => decide (b < W.heap.size)) x.block = true := fun x hx => by simpa using hlt x hx
  have hargs : ∀ sp : Nat → Bool, (∀ x ∈ p, sp x.block = true) → DataW.TrodAll enc Tryz.prog W' 0 sp true f.params.toList args.toList ds p := fun sp hsp => trodAll_stays hread hA (fun x hx => hB.same (hlt x hx)) hsp
  have hresult : ∀ (b : Nat) (sp : Nat → Bool) (hd : Bool), DataW.TrodAll enc Tryz.prog W' b sp hd f.resultTypes.toList ((Value.bool true).resultList f.resultTypes.size) [.lit (.bool true)] [] := fun _ _ _ => by
    rw [hres]
    exact trodAll_cons_mk (shut_bool hub _) trodAll_mk0
  have e : s.fn H (ds ++ []) = { results := [.lit (.bool true)], args := ds } := by rw [List.append_nil]; exact hfn
  refine ⟨ds, [], p ++ [], [], p, [], hW', ?_, ?_, ?_, hB.frame _, fun _ => ?_⟩
  · rw [e]; exact hresult _ _ _
  · rw [e]; exact hargs _ hold
  · rw [e, hvars]; rfl
  · rename_i h; cases h

/-- What a law's run gives. -/
theorem law_done {hin hout : List (Nat × Chunk)} {ρ : Env} {w w' : World} {e : Ending} (hno : ∀ i c, Sym.look i hin = some c → c.own = false) (h : CallPost hin hout (bl true) ρ w e w') : e = .returned (.bool true) ∧ Below w.heap.size w w' := by
  obtain ⟨ρ', v, rfl, h1, _, _, _, h2⟩ := h
  have hv : v = .bool true := by simp only [AV.den, Option.some.injEq] at h1; exact h1.symm
  subst hv
  refine ⟨rfl, h2.below fun g _ hg => ?_⟩
  obtain ⟨i, c, e, ho, _⟩ := hg
  rw [hno i c e] at ho
  cases ho
theorem lawIn_no (t : List (Nat × Chunk)) (h : t.all (fun x => !x.2.own) = true) : ∀ i c, Sym.look i t = some c → c.own = false := by
  intro i c e
  have := List.all_eq_true.1 h (i, c) (look_mem e)
  simpa using this

theorem rd_len {w : World} {B sz n : Nat} {v : Value} {cs : List Value} (h : Rd w B sz v n cs) : n ≤ 9223372036854775807 := by
  obtain ⟨_, A, c, _, h1, h2, _⟩ := h
  unfold maxLen at h2
  omega

/-- Where the arguments lie. -/
def lawEnv (l : List Value) : Env := fun i => match i with
  | 0 => some ⟨some ⟨4, 0, none⟩, 0⟩
  | 1 => some ⟨some ⟨0, 0, none⟩, 0⟩
  | k + 2 => (l[k]?).map locV
theorem pw_holds {W : World} {l : List Value} (h : ∃ t fr, W.heap[4]? = some (.cells (powZ.map fun z => Value.int .u64 z).toArray t fr)) : pwC.holds (lawEnv l) 0 W := by
  obtain ⟨t, fr, h⟩ := h
  exact ⟨_, _, _, rfl, rfl, t, fr, h⟩
theorem kd_holds {W : World} {l : List Value} (h : ∃ t fr, W.heap[0]? = some (.cells kindsV.toArray t fr)) : kdC.holds (lawEnv l) 1 W := by
  obtain ⟨t, fr, h⟩ := h
  exact ⟨_, _, _, rfl, rfl, t, fr, h⟩

/-- A block's cells set anew. -/
def setCells (h : Array Obj) (g : Nat) (cs : Array Value) : Array Obj := h.modify g fun
  | .cells _ t frozen => .cells cs t frozen
  | o => o
/-- A world whose tables are laid. -/
noncomputable def laidHeap (h : Array Obj) : Array Obj :=
  setCells (setCells (setCells (setCells h 0 kindsV.toArray) 4 (powZ.map fun z => Value.int .u64 z).toArray) 5 ([0, 1, 28, 2, 29, 14, 24, 3, 30, 22, 20, 15, 25, 17, 4, 8, 31, 27, 13, 23, 21, 19, 16, 7, 26, 12, 18, 6, 11, 5, 10, 9].map fun z => Value.int .u8 z).toArray) 6 ([0, 1, 56, 2, 57, 49, 28, 3, 61, 58, 42, 50, 38, 29, 17, 4, 62, 47, 59, 36, 45, 43, 51, 22, 53, 39, 33, 30, 24, 18, 12, 5, 63, 55, 48, 27, 60, 41, 37, 16, 46, 35, 44, 21, 52, 32, 23, 11, 54, 26, 40, 15, 34, 20, 31, 10, 25, 14, 19, 9, 13, 8, 7, 6].map fun z => Value.int .u8 z).toArray
noncomputable def laidW (os : Os) : World := { World.holding Tryz.prog os ⟨#[], #[], []⟩ with heap := laidHeap (World.holding Tryz.prog os ⟨#[], #[], []⟩).heap }

end Go.Proofs.YtlhgddgoblliaaaGreatDoor
