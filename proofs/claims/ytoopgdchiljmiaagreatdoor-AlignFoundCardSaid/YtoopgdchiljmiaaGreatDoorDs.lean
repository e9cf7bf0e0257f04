/- What the cards of chapter 5 share: the post of a law. -/
import Derived.Test.YtoopgdchiljmiaaGreatDoorDr
set_option linter.unusedVariables false
set_option linter.unusedSimpArgs false
namespace Go.Proofs.YtoopgdchiljmiaaGreatDoor
open Go.RowKit Go.Sym
open Go.ChangeShapes Go.WideShapes Go.ChangeAt

theorem ownGodebug : ownKnob Tryz.prog.godebug = none := by kernel_rfl
theorem laidOutP : laidOutB Tryz.prog = true := by kernel_rfl
theorem and_tt {a b : Bool} (h : a = true) (k : b = true) : (a && b) = true := by rw [h, k]; rfl
theorem mapsRowedP : mapsRowed Tryz.prog = true := by kernel_rfl
theorem keysP : (Rows.alignLeastRow.plainKeys == Tryz.prog.plainKeys) = true := by kernel_rfl
theorem heardP : Tryz.prog.stopsHeard = true := by kernel_rfl
theorem mayP : Tryz.prog.mayEnter = true := by kernel_rfl
theorem liftsP : (Rows.alignLeastRow.lifted == Tryz.prog.liftsFinal) = true := by kernel_rfl
theorem makeP : (Tryz.prog.make == some Rows.alignLeastRow.make) = true := by kernel_rfl
theorem trodAll_stays {H : Type} {enc : TypeId × Value → H} {W W' : World} {sp' : Nat → Bool} : ∀ {ts : List TypeId} {vs : List Value} {ds : List (DataW H)} {ps : List MemPlace},
    (∀ t ∈ ts, Tryz.prog.readableRec t = true ∧ t < Tryz.prog.types.size) → DataW.TrodAll enc Tryz.prog W 0 (fun _ => true) true ts vs ds ps → (∀ p ∈ ps, W.sameAt W' p) → (∀ p ∈ ps, sp' p.block = true) → DataW.TrodAll enc Tryz.prog W' 0 sp' true ts vs ds ps
  | [], [], [], _, _, h, _, _ => h
  | [], _ :: _, _, _, _, h, _, _ => h.elim
  | [], [], _ :: _, _, _, h, _, _ => h.elim
  | _ :: _, [], _, _, _, h, _, _ => h.elim
  | _ :: _, _ :: _, [], _, _, h, _, _ => h.elim
  | t :: ts, v :: vs, d :: ds, ps, hr, ⟨p, q, h1, h2, e⟩, hs, hp => by
    subst e
    have ht := hr t List.mem_cons_self
    exact ⟨p, q, WideElems.Trod_stays laidOutP ht.1 ht.2 h1 (fun x hx => hs x (List.mem_append_left _ hx)) (fun x hx => hp x (List.mem_append_left _ hx)),
      trodAll_stays (fun t ht => hr t (List.mem_cons_of_mem _ ht)) h2 (fun x hx => hs x (List.mem_append_right _ hx)) (fun x hx => hp x (List.mem_append_right _ hx)), rfl⟩

/-- What a law leaves: true, and all as it was. -/
theorem law_post {H : Type} {enc : TypeId × Value → H} {f : Func} {s : ChangeSpec} {W W' : World} {args : Array Value} {ds gs : List (DataW H)} {before : List MemPlace} (hvars : s.vars = [])
    (hW : DataW.Whole enc Tryz.prog f.params.toList s.vars false W args.toList ds gs before) (hfn : s.fn H ds = { results := [.lit (.bool true)], args := ds }) (hres : f.resultTypes = #[4])
    (hread : ∀ t ∈ f.params.toList, Tryz.prog.readableRec t = true ∧ t < Tryz.prog.types.size) (hB : Below W.heap.size W W') : s.post enc Tryz.prog f false true false false W args (.bool true) W' := by
  have hub : Tryz.prog.underlying 4 = some .bool := by kernel_rfl
  have hW' := hW
  obtain ⟨p, q, hA, hV, rfl, hfz, hnd⟩ := hW
  rw [hvars] at hV
  obtain ⟨rfl, rfl⟩ := trodVars_none hV
  have hlt : ∀ x ∈ p ++ [], x.block < W.heap.size := fun x hx => hW'.lt x hx
  simp only [List.append_nil] at hlt
  have hold : ∀ x ∈ p, (fun b => decide (b < W.heap.size)) x.block = true := fun x hx => by simpa using hlt x hx
  have hargs : ∀ sp : Nat → Bool, (∀ x ∈ p, sp x.block = true) → DataW.TrodAll enc Tryz.prog W' 0 sp true f.params.toList args.toList ds p := fun sp hsp => trodAll_stays hread hA (fun x hx => hB.same (hlt x hx)) hsp
  have hresult : ∀ (b : Nat) (sp : Nat → Bool) (hd : Bool), DataW.TrodAll enc Tryz.prog W' b sp hd f.resultTypes.toList ((Value.bool true).resultList f.resultTypes.size) [.lit (.bool true)] [] := fun _ _ _ => by
    rw [hres]
    exact trodAll_cons_mk (shut_bool hub _) trodAll_mk0
  have e : s.fn H (ds ++ []) = { results := [.lit (.bool true)], args := ds } := by rw [List.append_nil]; exact hfn
  refine ⟨ds, [], p ++ [], [], p, [], hW', ?_, ?_, ?_, hB.frame _, fun _ => ?_⟩
  · rw [e]; exact hresult _ _ _
  · rw [e]; exact hargs _ hold
  · rw [e, hvars]; rfl
  · rename_i h; cases h

/-- What a law's run gives. -/
theorem law_done {hin hout : List (Nat × Chunk)} {ρ : Env} {w w' : World} {e : Ending} (hno : ∀ i c, Sym.look i hin = some c → c.own = false) (h : CallPost hin hout (bl true) ρ w e w') : e = .returned (.bool true) ∧ Below w.heap.size w w' := by
  obtain ⟨ρ', v, rfl, h1, _, _, _, h2⟩ := h
  have hv : v = .bool true := by simp only [AV.den, Option.some.injEq] at h1; exact h1.symm
  subst hv
  refine ⟨rfl, h2.below fun g _ hg => ?_⟩
  obtain ⟨i, c, e, ho, _⟩ := hg
  rw [hno i c e] at ho
  cases ho
theorem lawIn_no (t : List (Nat × Chunk)) (h : t.all (fun x => !x.2.own) = true) : ∀ i c, Sym.look i t = some c → c.own = false := by
  intro i c e
  have := List.all_eq_true.1 h (i, c) (look_mem e)
  simpa using this

theorem rd_len {w : World} {B sz n : Nat} {v : Value} {cs : List Value} (h : Rd w B sz v n cs) : n ≤ 9223372036854775807 := by
  obtain ⟨_, A, c, _, h1, h2, _⟩ := h
  unfold maxLen at h2
  omega

/-- Where the arguments lie. -/
def lawEnv (l : List Value) : Env := fun i => match i with
  | 0 => some ⟨some ⟨2, 0, none⟩, 0⟩
  | 1 => some ⟨some ⟨0, 0, none⟩, 0⟩
  | k + 2 => (l[k]?).map locV
theorem pw_holds {W : World} {l : List Value} (h : ∃ t fr, W.heap[2]? = some (.cells (powZ.map fun z => Value.int .u64 z).toArray t fr)) : pwC.holds (lawEnv l) 0 W := by
  obtain ⟨t, fr, h⟩ := h
  exact ⟨_, _, _, rfl, rfl, t, fr, h⟩
theorem fm_holds {W : World} {l : List Value} (h : ∃ t fr, W.heap[0]? = some (.cells formsV.toArray t fr)) : fmC.holds (lawEnv l) 1 W := by
  obtain ⟨t, fr, h⟩ := h
  exact ⟨_, _, _, rfl, rfl, t, fr, h⟩

/-- A block's cells set anew. -/
def setCells (h : Array Obj) (g : Nat) (cs : Array Value) : Array Obj := h.modify g fun
  | .cells _ t frozen => .cells cs t frozen
  | o => o
/-- A world whose tables are laid. -/
noncomputable def laidHeap (h : Array Obj) : Array Obj :=
  setCells (setCells (setCells (setCells h 0 formsV.toArray) 2 (powZ.map fun z => Value.int .u64 z).toArray) 5 ([0, 1, 28, 2, 29, 14, 24, 3, 30, 22, 20, 15, 25, 17, 4, 8, 31, 27, 13, 23, 21, 19, 16, 7, 26, 12, 18, 6, 11, 5, 10, 9].map fun z => Value.int .u8 z).toArray) 6 ([0, 1, 56, 2, 57, 49, 28, 3, 61, 58, 42, 50, 38, 29, 17, 4, 62, 47, 59, 36, 45, 43, 51, 22, 53, 39, 33, 30, 24, 18, 12, 5, 63, 55, 48, 27, 60, 41, 37, 16, 46, 35, 44, 21, 52, 32, 23, 11, 54, 26, 40, 15, 34, 20, 31, 10, 25, 14, 19, 9, 13, 8, 7, 6].map fun z => Value.int .u8 z).toArray
noncomputable def laidW (os : Os) : World := { World.holding Tryz.prog os ⟨#[], #[], []⟩ with heap := laidHeap (World.holding Tryz.prog os ⟨#[], #[], []⟩).heap }

end Go.Proofs.YtoopgdchiljmiaaGreatDoor
