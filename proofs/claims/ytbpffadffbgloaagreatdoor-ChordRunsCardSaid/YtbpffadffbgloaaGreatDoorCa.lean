/- What the cards of chapter 3 share: arguments opened, the package's tables, the post. -/
import Derived.Test.YtbpffadffbgloaaGreatDoorCards
import Derived.Test.YtbpffadffbgloaaGreatDoorTie
import Derived.ProofKit
import Derived.OpenShut
import Derived.Deep.SlicePairs
import Derived.Deep.Strs
import Derived.Deep.DeepHandedRow
import Derived.Lib.LaidTab
import Derived.Test.YtbpffadffbgloaaGreatDoorAw
import Derived.Test.YtbpffadffbgloaaGreatDoorRb
set_option linter.unusedVariables false
set_option linter.unusedSimpArgs false
namespace Go.Proofs.YtbpffadffbgloaaGreatDoor
open Go.RowKit Go.Sym
open Go.ChangeShapes Go.WideShapes Go.ChangeAt

theorem ownGodebug : ownKnob Tryz.prog.godebug = none := by kernel_rfl
theorem laidOutP : laidOutB Tryz.prog = true := by kernel_rfl
theorem gPowersT : (Tryz.prog.globals[0]?).map (·.type) = some 213 := by kernel_rfl

theorem cells_pow {H : Type} {enc : TypeId × Value → H} {w : World} {base : Nat} {sp : Nat → Bool} {held : Bool} {fuel : Nat} {cs : List Value} {p : List MemPlace}
    (h : DataW.trod enc Tryz.prog w base sp held fuel 213 cs = some (Rows.laid_versine_chord_powers, p)) : cs = [1, 0, 0, 1, -1, 0, 0, -1].map fun z => Value.int .i64 z := by
  have ht : Tryz.prog.underlying 213 = some (.array 4 184) := by kernel_rfl
  have ht2 : Tryz.prog.underlying 184 = some (.array 2 3) := by kernel_rfl
  have ht3 : Tryz.prog.underlying 3 = some (.int .i64) := by kernel_rfl
  have c1 : Tryz.prog.cellsOf 213 = 8 := by kernel_rfl
  have c2 : Tryz.prog.cellsOf 184 = 2 := by kernel_rfl
  have c3 : Tryz.prog.cellsOf 3 = 1 := by kernel_rfl
  cases fuel with
  | zero => simp [DataW.trod] at h
  | succ fuel =>
    simp only [DataW.trod, ht, c1, c2] at h
    split at h
    · rename_i hl
      obtain ⟨xs, hm, hx⟩ := Option.map_eq_some_iff.1 h
      have hxs : xs.map (·.1) = [Lib.tabData .i64 [1, 0], Lib.tabData .i64 [0, 1], Lib.tabData .i64 [-1, 0], Lib.tabData .i64 [0, -1]] := by
        have := congrArg Prod.fst hx
        simpa [Rows.laid_versine_chord_powers, Lib.tabData] using this
      have part : ∀ (i : Nat) (zs : List Int), i < 4 → (xs.map (·.1))[i]? = some (Lib.tabData .i64 zs) → (cs.drop (i * 2)).take 2 = zs.map fun z => Value.int .i64 z := by
        intro i zs hi he
        obtain ⟨b, hb, hf⟩ := Lib.mapM_at hm i i (by simp [hi])
        rw [List.getElem?_map, hb, Option.map_some, Option.some.injEq] at he
        obtain ⟨b1, b2⟩ := b
        dsimp only at he
        subst he
        exact Lib.cells_of_tab ht2 ht3 c3 c2 hf
      have p0 := part 0 [1, 0] (by decide) (by rw [hxs]; rfl)
      have p1 := part 1 [0, 1] (by decide) (by rw [hxs]; rfl)
      have p2 := part 2 [-1, 0] (by decide) (by rw [hxs]; rfl)
      have p3 := part 3 [0, -1] (by decide) (by rw [hxs]; rfl)
      have hl8 : cs.length = 8 := by simpa using hl
      clear part hm hx hxs
      match cs, hl8, p0, p1, p2, p3 with
      | [a, b, c, d, e, f, g, h], _, p0, p1, p2, p3 =>
        simp only [Nat.zero_mul, List.drop_zero, List.drop_succ_cons, List.take_succ_cons, List.take_zero, List.map_cons, List.map_nil, List.cons.injEq, and_true] at p0 p1 p2 p3
        obtain ⟨rfl, rfl⟩ := p0
        obtain ⟨rfl, rfl⟩ := p1
        obtain ⟨rfl, rfl⟩ := p2
        obtain ⟨rfl, rfl⟩ := p3
        rfl
    · cases h

/-- The table of powers lies where it lies. -/
theorem powers_at {W : World} {rest : List (String × DataW Unit)} {x1 x2 x3 : String × DataW Unit} {nm : String} (gPowers : Tryz.prog.globalNamed nm = some 0) (h : laidMet Tryz.prog (x1 :: x2 :: x3 :: (nm, Rows.laid_versine_chord_powers) :: rest) W) :
    ∃ t fr, W.heap[0]? = some (.cells ([1, 0, 0, 1, -1, 0, 0, -1].map fun z => Value.int .i64 z).toArray t fr) := by
  obtain ⟨ps, ⟨_, _, _, _, _, _, _, _, _, _, ⟨_, _, _, _, _, _, _, _, _, _, ⟨_, _, _, _, _, _, _, _, _, _, ⟨g, t, cs, fuel, p, q, hg, ht, hvar, hd, _, _⟩, _⟩, _⟩, _⟩, _⟩ := h
  obtain rfl := Option.some.inj (gPowers.symm.trans hg)
  obtain rfl := Option.some.inj (gPowersT.symm.trans ht)
  have hcs := cells_pow hd
  unfold World.var? at hvar
  rw [gPowers] at hvar
  simp only [Option.bind_some] at hvar
  split at hvar
  · rename_i cs' t' fr h1
    cases hvar
    refine ⟨t', fr, ?_⟩
    rw [h1, ← hcs]
  · cases hvar

set_option maxRecDepth 20000 in
theorem open_chord {W : World} {H : Type} {enc : TypeId × Value → H} {r : Reach} {b0 : Nat} {sp : Nat → Bool} {v : Value} {d : DataW H} {p : List MemPlace} (hval : Value.okWide Tryz.prog W r b0 53 v)
    (h : DataW.Trod enc Tryz.prog W 0 sp true 53 v d p) : ∃ b a : Int, v = .agg #[.int .i64 b, .int .i64 a] := by
  have hu : ∃ f0 f1, Tryz.prog.underlying 53 = some (.struct #[f0, f1]) ∧ f0.type = 3 ∧ f1.type = 3 ∧ f0.offset = 0 ∧ f1.offset = 1 := ⟨_, _, Tryz.underlying53, rfl, rfl, rfl, rfl⟩
  obtain ⟨f0, f1, hu, t0, t1, o0, o1⟩ := hu
  have ht3 : Tryz.prog.underlying 3 = some (.int .i64) := by kernel_rfl
  have c3 : Tryz.prog.cellsOf 3 = 1 := by kernel_rfl
  have c2 : Tryz.prog.cellsOf 53 = 2 := by kernel_rfl
  obtain ⟨cs, rfl, hcs⟩ := okWide_struct hu hval
  obtain ⟨fuel, hf⟩ := h
  obtain ⟨y0, y1, n, _, hl, g0, g1⟩ := trod_struct2 hu hf
  rw [t0, c3, o0] at g0
  rw [t1, c3, o1] at g1
  obtain ⟨x0, e0, _, _⟩ := DataW.trod_int ht3 g0
  obtain ⟨x1, e1, _, _⟩ := DataW.trod_int ht3 g1
  obtain ⟨l⟩ := cs
  rw [c2] at hcs
  match l, hcs with
  | [a, b], _ =>
    simp [Value.cells] at e0 e1
    exact ⟨x0, x1, by rw [e0, e1]⟩

set_option maxRecDepth 20000 in
theorem open_arr3 {W : World} {H : Type} {enc : TypeId × Value → H} {r : Reach} {b0 : Nat} {sp : Nat → Bool} {v : Value} {d : DataW H} {p : List MemPlace} (hval : Value.okWide Tryz.prog W r b0 26 v)
    (h : DataW.Trod enc Tryz.prog W 0 sp true 26 v d p) : ∃ x y z : Int, v = .agg #[.int .i64 x, .int .i64 y, .int .i64 z] := by
  have ht : Tryz.prog.underlying 26 = some (.array 3 3) := by kernel_rfl
  have ht3 : Tryz.prog.underlying 3 = some (.int .i64) := by kernel_rfl
  have c3 : Tryz.prog.cellsOf 3 = 1 := by kernel_rfl
  have c2 : Tryz.prog.cellsOf 26 = 3 := by kernel_rfl
  simp only [Value.okWide, ht] at hval
  obtain ⟨cs, rfl, hcs, _⟩ := hval
  rw [c2] at hcs
  obtain ⟨fuel, hf⟩ := h
  cases fuel with
  | zero => simp [DataW.trod] at hf
  | succ fuel =>
    simp only [DataW.trod, ht, c2, c3] at hf
    split at hf
    · obtain ⟨xs, hm, _⟩ := Option.map_eq_some_iff.1 hf
      obtain ⟨l⟩ := cs
      match l, hcs with
      | [a, b, c], _ =>
        obtain ⟨_, _, f0⟩ := Lib.mapM_at hm 0 0 (by simp)
        obtain ⟨_, _, f1⟩ := Lib.mapM_at hm 1 1 (by simp)
        obtain ⟨_, _, f2⟩ := Lib.mapM_at hm 2 2 (by simp)
        obtain ⟨x, e0, _, _⟩ := DataW.trod_int ht3 f0
        obtain ⟨y, e1, _, _⟩ := DataW.trod_int ht3 f1
        obtain ⟨z, e2, _, _⟩ := DataW.trod_int ht3 f2
        simp [Value.cells] at e0 e1 e2
        exact ⟨x, y, z, by rw [e0, e1, e2]⟩
    · cases hf

/-- A slice of integers that is an argument's part. -/
theorem open_ints_rd {W : World} {H : Type} {enc : TypeId × Value → H} {fuel : Nat} {v : Value} {x : DataW H × List MemPlace} (h : DataW.trod enc Tryz.prog W 0 (fun _ => true) true fuel 22 [v] = some x) :
    ∃ (l : List Int), Rd W W.heap.size 1 v l.length (Go.Proofs.YtbpffadffbgloaaGreatDoor.ints l) := by
  have ht : Tryz.prog.underlying 22 = some (.slice 3) := by kernel_rfl
  have ht3 : Tryz.prog.underlying 3 = some (.int .i64) := by kernel_rfl
  have c3 : Tryz.prog.cellsOf 3 = 1 := by kernel_rfl
  rcases open_ints ht ht3 c3 h with ⟨hcs, _⟩ | ⟨a, len, cap, zs, hcs, _, hl, hm, hz, _, hcell, _⟩
  · cases hcs; exact ⟨[], Rd.nil _ _ _⟩
  · cases hcs
    simp only [if_true] at hz
    have hlen : (zs.take len).length = len := by rw [List.length_take]; omega
    refine ⟨zs.take len, ?_⟩
    rw [hlen]
    refine ⟨by simp [Go.Proofs.YtbpffadffbgloaaGreatDoor.ints]; omega, some a, cap, rfl, hl, hm, fun h0 => ⟨a, rfl, ?_, fun j u hu => ?_⟩⟩
    · have h1 := hcell 0 (by omega)
      have := World.block_lt_of_cell? W _ h1
      rwa [addr_block'] at this
    · have hj : j < len := by
        have := (List.getElem?_eq_some_iff.1 hu).1
        simp [Go.Proofs.YtbpffadffbgloaaGreatDoor.ints] at this; omega
      rw [hcell j (by omega)]
      simp only [Go.Proofs.YtbpffadffbgloaaGreatDoor.ints, List.getElem?_map, List.getElem?_take, if_pos hj] at hu
      rw [List.getD_eq_getElem?_getD]
      cases e : zs[j]? with
      | none => rw [e] at hu; cases hu
      | some z => rw [e] at hu; simpa using hu
def intOf' : Value → Int
  | .int _ n => n
  | _ => 0
theorem open_spans_rd {W : World} {H : Type} {enc : TypeId × Value → H} {fuel : Nat} {v : Value} {x : DataW H × List MemPlace} (h : DataW.trod enc Tryz.prog W 0 (fun _ => true) true fuel 23 [v] = some x) :
    ∃ (l : List (Int × Int)), Rd W W.heap.size 2 v l.length (spans l) := by
  have ht : Tryz.prog.underlying 23 = some (.slice 102) := by kernel_rfl
  have hu : ∃ f0 f1, Tryz.prog.underlying 102 = some (.struct #[f0, f1]) ∧ f0.type = 3 ∧ f1.type = 3 ∧ f0.offset = 0 ∧ f1.offset = 1 := ⟨_, _, Tryz.underlying102, rfl, rfl, rfl, rfl⟩
  obtain ⟨f0, f1, hu, t0, t1, o0, o1⟩ := hu
  have ht3 : Tryz.prog.underlying 3 = some (.int .i64) := by kernel_rfl
  have c3 : Tryz.prog.cellsOf 3 = 1 := by kernel_rfl
  have c2 : Tryz.prog.cellsOf 102 = 2 := by kernel_rfl
  rcases Deep.open_slice_pairs ht hu c2 o0 o1 (by rw [t0]; exact c3) (by rw [t1]; exact c3) h with ⟨hcs, _⟩ | ⟨a, len, cap, m, n, V0, V1, D0, D1, P0, P1, hcs, _, hl, hm, hmm, _, hx⟩
  · cases hcs; exact ⟨[], Rd.nil _ _ _⟩
  · cases hcs
    simp only [if_true] at hmm
    subst hmm
    have hint : ∀ i, i < m → V0 i = .int .i64 (intOf' (V0 i)) ∧ V1 i = .int .i64 (intOf' (V1 i)) := by
      intro i hi
      obtain ⟨_, _, h3, h4⟩ := hx i hi
      rw [t0] at h3
      rw [t1] at h4
      obtain ⟨x0, e0, _, _⟩ := DataW.trod_int ht3 h3
      obtain ⟨x1, e1, _, _⟩ := DataW.trod_int ht3 h4
      simp only [List.cons.injEq, and_true] at e0 e1
      rw [e0, e1]; exact ⟨rfl, rfl⟩
    let l : List (Int × Int) := (List.range len).map fun i => (intOf' (V0 i), intOf' (V1 i))
    have hlen : l.length = len := by simp [l]
    refine ⟨l, ?_⟩
    rw [hlen]
    refine ⟨by rw [spans_len, hlen], some a, m, rfl, hl, hm, fun h0 => ⟨a, rfl, ?_, fun j u hu => ?_⟩⟩
    · have h1 := (hx 0 (by omega)).1
      have := World.block_lt_of_cell? W _ h1
      rwa [addr_block'] at this
    · have hj : j < len * 2 := by
        have := (List.getElem?_eq_some_iff.1 hu).1
        rw [spans_len, hlen] at this; exact this
      have hk : j / 2 < l.length := by omega
      obtain ⟨s0, s1⟩ := spans_at l (j / 2) hk
      have hli : l[j / 2] = (intOf' (V0 (j / 2)), intOf' (V1 (j / 2))) := by simp [l]
      obtain ⟨h1, h2, _, _⟩ := hx (j / 2) (by omega)
      obtain ⟨i0, i1⟩ := hint (j / 2) (by omega)
      rcases (by omega : j = j / 2 * 2 ∨ j = j / 2 * 2 + 1) with e | e
      · rw [e] at hu ⊢
        rw [s0, hli] at hu
        rw [h1, i0]; exact hu
      · rw [e] at hu ⊢
        rw [s1, hli] at hu
        rw [h2, i1]; exact hu
set_option maxRecDepth 20000 in
theorem open_trace {W : World} {H : Type} {enc : TypeId × Value → H} {r : Reach} {b0 : Nat} {v : Value} {d : DataW H} {p : List MemPlace} (hval : Value.okWide Tryz.prog W r b0 25 v)
    (h : DataW.Trod enc Tryz.prog W 0 (fun _ => true) true 25 v d p) : ∃ (t : Tr) (vv hv : Value), v = .agg #[.int .i64 t.first, vv, hv] ∧ RdT W W.heap.size vv hv t := by
  have hu : ∃ f0 f1 f2, Tryz.prog.underlying 25 = some (.struct #[f0, f1, f2]) ∧ f0.type = 3 ∧ f1.type = 22 ∧ f2.type = 23 ∧ f0.offset = 0 ∧ f1.offset = 1 ∧ f2.offset = 2 := ⟨_, _, _, Tryz.underlying25, rfl, rfl, rfl, rfl, rfl, rfl⟩
  obtain ⟨f0, f1, f2, hu, t0, t1, t2, o0, o1, o2⟩ := hu
  have ht3 : Tryz.prog.underlying 3 = some (.int .i64) := by kernel_rfl
  have c3 : Tryz.prog.cellsOf 3 = 1 := by kernel_rfl
  have c4 : Tryz.prog.cellsOf 22 = 1 := by kernel_rfl
  have c5 : Tryz.prog.cellsOf 23 = 1 := by kernel_rfl
  have c2 : Tryz.prog.cellsOf 25 = 3 := by kernel_rfl
  obtain ⟨cs, rfl, hcs⟩ := okWide_struct hu hval
  obtain ⟨fuel, hf⟩ := h
  obtain ⟨y0, y1, y2, n, _, hl, g0, g1, g2⟩ := Deep.trod_struct3 hu hf
  rw [t0, c3, o0] at g0
  rw [t1, c4, o1] at g1
  rw [t2, c5, o2] at g2
  obtain ⟨x0, e0, _, _⟩ := DataW.trod_int ht3 g0
  obtain ⟨l⟩ := cs
  rw [c2] at hcs
  match l, hcs with
  | [a, b, c], _ =>
    simp [Value.cells] at e0 g1 g2
    obtain ⟨l, h1⟩ := open_ints_rd g1
    obtain ⟨hs, h2⟩ := open_spans_rd g2
    exact ⟨⟨x0, l, hs⟩, b, c, by rw [e0], h1, h2⟩

theorem trodAll_stays {H : Type} {enc : TypeId × Value → H} {W W' : World} {sp' : Nat → Bool} : ∀ {ts : List TypeId} {vs : List Value} {ds : List (DataW H)} {ps : List MemPlace},
    (∀ t ∈ ts, Tryz.prog.readableRec t = true ∧ t < Tryz.prog.types.size) → DataW.TrodAll enc Tryz.prog W 0 (fun _ => true) true ts vs ds ps → (∀ p ∈ ps, W.sameAt W' p) → (∀ p ∈ ps, sp' p.block = true) → DataW.TrodAll enc Tryz.prog W' 0 sp' true ts vs ds ps
  | [], [], [], _, _, h, _, _ => h
  | [], _ :: _, _, _, _, h, _, _ => h.elim
  | [], [], _ :: _, _, _, h, _, _ => h.elim
  | _ :: _, [], _, _, _, h, _, _ => h.elim
  | _ :: _, _ :: _, [], _, _, h, _, _ => h.elim
  | t :: ts, v :: vs, d :: ds, ps, hr, ⟨p, q, h1, h2, e⟩, hs, hp => by
    subst e
    have ht := hr t List.mem_cons_self
    exact ⟨p, q, WideElems.Trod_stays laidOutP ht.1 ht.2 h1 (fun x hx => hs x (List.mem_append_left _ hx)) (fun x hx => hp x (List.mem_append_left _ hx)),
      trodAll_stays (fun t ht => hr t (List.mem_cons_of_mem _ ht)) h2 (fun x hx => hs x (List.mem_append_right _ hx)) (fun x hx => hp x (List.mem_append_right _ hx)), rfl⟩

/-- What a law leaves: true, and all as it was. -/
theorem law_post {H : Type} {enc : TypeId × Value → H} {f : Func} {s : ChangeSpec} {W W' : World} {args : Array Value} {ds gs : List (DataW H)} {before : List MemPlace} (hvars : s.vars = [])
    (hW : DataW.Whole enc Tryz.prog f.params.toList s.vars false W args.toList ds gs before) (hfn : s.fn H ds = { results := [.lit (.bool true)], args := ds }) (hres : f.resultTypes = #[4])
    (hread : ∀ t ∈ f.params.toList, Tryz.prog.readableRec t = true ∧ t < Tryz.prog.types.size) (hB : Below W.heap.size W W') : s.post enc Tryz.prog f false true false false W args (.bool true) W' := by
  have hub : Tryz.prog.underlying 4 = some .bool := by kernel_rfl
  have hW' := hW
  obtain ⟨p, q, hA, hV, rfl, hfz, hnd⟩ := hW
  rw [hvars] at hV
  obtain ⟨rfl, rfl⟩ := trodVars_none hV
  have hlt : ∀ x ∈ p ++ [], x.block < W.heap.size := fun x hx => hW'.lt x hx
  simp only [List.append_nil] at hlt
  have hold : ∀ x ∈ p, (fun b => decide (b < W.heap.size)) x.block = true := fun x hx => by simpa using hlt x hx
  have hargs : ∀ sp : Nat → Bool, (∀ x ∈ p, sp x.block = true) → DataW.TrodAll enc Tryz.prog W' 0 sp true f.params.toList args.toList ds p := fun sp hsp => trodAll_stays hread hA (fun x hx => hB.same (hlt x hx)) hsp
  have hresult : ∀ (b : Nat) (sp : Nat → Bool) (hd : Bool), DataW.TrodAll enc Tryz.prog W' b sp hd f.resultTypes.toList ((Value.bool true).resultList f.resultTypes.size) [.lit (.bool true)] [] := fun _ _ _ => by
    rw [hres]
    exact trodAll_cons_mk (shut_bool hub _) trodAll_mk0
  have e : s.fn H (ds ++ []) = { results := [.lit (.bool true)], args := ds } := by rw [List.append_nil]; exact hfn
  refine ⟨ds, [], p ++ [], [], p, [], hW', ?_, ?_, ?_, hB.frame _, fun _ => ?_⟩
  · rw [e]; exact hresult _ _ _
  · rw [e]; exact hargs _ hold
  · rw [e, hvars]; rfl
  · rename_i h; cases h

end Go.Proofs.YtbpffadffbgloaaGreatDoor
