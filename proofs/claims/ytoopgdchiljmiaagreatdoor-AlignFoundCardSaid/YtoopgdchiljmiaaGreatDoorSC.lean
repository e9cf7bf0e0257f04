/- Ranges over functions: the iterator's code and the rounds are run in the caller's memory. No program in sight. -/
import Derived.Test.YtoopgdchiljmiaaGreatDoorSB
set_option linter.unusedVariables false
set_option linter.unusedSimpArgs false
namespace Go.Sym
open Go.RowKit

theorem wpIn_n {rd : Option Nat} {n m : Nat} {P : Program} {c : Code} {Q : Exit → Act → World → Prop} {a : Act} {w : World} (h : c.wpIn (fen rd) n P Q a w) : c.wpIn (fen rd) m P Q a w :=
  fun b k cs hro hb _ => h b k cs hro hb (fun d hd => by cases hd)

section
variable {F : Frm} {s : St} {ρ : Env} {a : Act} {w : World}

/-- The frame of code that is run within a call: with the world at hand as its first one. -/
def inner (F : Frm) (s : St) (ρ : Env) (w : World) (nt : Nat) (rd : Option Nat) : Frm := ⟨F.P, nt, s.nx, ρ, w, Owned ρ fun k => look k s.H, rd⟩

theorem inner_le {nt : Nat} {rd : Option Nat} {ρ' : Env} {s' : St} {a' : Act} {w' : World} (h : HoldsS F s ρ a w) (h' : HoldsS (inner F s ρ w nt rd) s' ρ' a' w') : Env.le ρ ρ' := fun i L e => by
  rw [h'.I.keep i (h.I.dom i L e)]; exact e

/-- What was known is known behind it. -/
theorem inner_join {nt : Nat} {rd : Option Nat} {ρ' : Env} {s' : St} {a' : Act} {w' : World} (h : HoldsS F s ρ a w) (h' : HoldsS (inner F s ρ w nt rd) s' ρ' a' w') : HoldsS F ⟨s.T, s'.H, s'.nx⟩ ρ' a w' := by
  have hle := inner_le h h'
  refine ⟨Nat.le_trans h.m h'.m, h.I.size, h.I.defers.keep (KeepM.touch h'.I.touch fun g ⟨i, c, e, _, hg⟩ => Chunk.holds_odd (h.I.heap.holds i c e) hg), fun k av e => ?_, h'.I.heap, h'.I.dom, fun i hi => ?_, fun g hg => ?_, h.I.touch.trans h'.I.touch fun g hg => (h.I.fresh g hg).elim .inr .inl⟩
  · obtain ⟨v, h1, h2⟩ := h.I.tm k av e
    exact ⟨v, AV.den_mono hle _ _ h1, h2⟩
  · rw [h'.I.keep i (Nat.lt_of_lt_of_le hi h.m)]; exact h.I.keep i hi
  · rcases h'.I.fresh g hg with h1 | h1
    · exact .inl (Nat.le_trans h.I.touch.size h1)
    · exact h.I.fresh g h1

theorem inner_cfg {cfg : Cfg} (hC : CfgOk F cfg) (h : HoldsS F s ρ a w) (nt : Nat) (rd : Option Nat) : CfgOk (inner F s ρ w nt rd) ⟨nt, cfg.tys, cfg.globs⟩ :=
  ⟨hC.tv, rfl, fun g i hm => by obtain ⟨h1, c, h2⟩ := hC.gl g i hm; exact ⟨Nat.lt_of_lt_of_le h1 h.m, c, (h.I.keep i h1).trans h2⟩⟩

theorem inner_start {nt : Nat} {rd : Option Nat} (h : HoldsS F s ρ a w) {T : List (Nat × AV)} {tmps : Array Value} (hs : tmps.size = nt) (ht : ∀ k av, look k T = some av → ∃ v, av.den ρ = some v ∧ tmps[k]? = some v) :
    HoldsS (inner F s ρ w nt rd) ⟨T, s.H, s.nx⟩ ρ { tmps := tmps, defers := [] } w :=
  ⟨Nat.le_refl _, hs, Marks.nil _ _, ht, h.I.heap, h.I.dom, fun _ _ => rfl, fun _ hg => .inr hg, Touch.refl _ _⟩

/-- A chunk that is no row is another one, and so is its block. -/
theorem holds_obj (h : HoldsS F s ρ a w) {k : Nat} {o o' : ObjK} (hk : look k s.H = some (.obj o)) {g cap : Nat} {ob ob' : Obj} (hρ : ρ k = some ⟨some ⟨g, 0, none⟩, cap⟩) (hg : w.heap[g]? = some ob) (ho : o'.is ρ ob') :
    HoldsS F ⟨s.T, setA k (.obj o') s.H, s.nx⟩ ρ a (w.putObj g ob') := by
  have hlt : g < w.heap.size := (Array.getElem?_eq_some_iff.1 hg).1
  have hI2 := h.I.setChunk (c := .obj o) (c' := .obj o') hk rfl rfl (g := g) ⟨_, _, hρ, rfl, rfl⟩ (w' := w.putObj g ob') ⟨rfl, rfl, rfl, by simp, fun k _ hk => World.putObj_heap_other hk⟩ ⟨g, cap, ob', hρ, ho, World.putObj_heap_same hlt⟩
  refine ⟨h.m, hI2.sub (fun i L _ h => h) (fun _ _ h => h) fun j d hj => ?_⟩
  dsimp only at hj
  rw [look_setA] at hj
  by_cases hji : j = k
  · subst hji
    rw [if_pos rfl, hk] at hj
    rw [upd_same]
    simpa using hj
  · rw [if_neg hji] at hj
    rw [upd_other _ _ hji]
    exact hj

/-- A chunk that is no row is left, and its block is another one. -/
theorem drop_obj (h : HoldsS F s ρ a w) {k : Nat} {o : ObjK} (hk : look k s.H = some (.obj o)) {g cap : Nat} {ob ob' : Obj} (hρ : ρ k = some ⟨some ⟨g, 0, none⟩, cap⟩) (hg : w.heap[g]? = some ob) :
    HoldsS F ⟨s.T, delA k s.H, s.nx⟩ ρ a (w.putObj g ob') := by
  have hocc : Chunk.occ ρ k g (.obj o) := ⟨_, _, hρ, rfl, rfl⟩
  have hd : ∀ {i c}, look i (delA k s.H) = some c → i ≠ k ∧ look i s.H = some c := fun e => look_del e
  have hob : ∀ x, ob ≠ .deferred x := fun x e => Chunk.holds_odd (h.I.heap.holds k _ hk) hocc x (by rw [hg, e])
  have hne : ∀ {i c x}, look i (delA k s.H) = some c → c.occ ρ i x → x ≠ g := fun e hx hxg => by
    obtain ⟨h1, h2⟩ := hd e
    exact h.I.heap.apart k _ hk rfl _ _ h2 h1 g hocc (hxg ▸ hx)
  have ht : Touch (· = g) w (w.putObj g ob') := ⟨rfl, rfl, rfl, by simp, fun k _ hk => World.putObj_heap_other hk⟩
  refine ⟨h.m, h.I.size, h.I.defers.keep fun r hr => World.putObj_heap_other ?_, h.I.tm, ⟨fun i c e => ?_, fun i c e ho j d e' hne g' hg' => ?_⟩, h.I.dom, h.I.keep, fun x hx => ?_, touch_row h.I.touch (h.I.fresh g ⟨k, _, hk, rfl, hocc⟩) ht⟩
  · rintro rfl
    rw [hg] at hr
    exact hob _ (Option.some.inj hr)
  · exact Chunk.holds_ext (h.I.heap.holds i c (hd e).2) fun x hx => World.putObj_heap_other (hne e hx)
  · exact h.I.heap.apart i c (hd e).2 ho j d (hd e').2 hne g' hg'
  · obtain ⟨i, c, e, ho, hg'⟩ := hx
    exact h.I.fresh x ⟨i, c, (hd e).2, ho, hg'⟩

/-- A new block, in whatever it is. -/
theorem holds_new {T : List (Nat × AV)} {H : List (Nat × Chunk)} {nx : Nat} (h : Holds F T H nx ρ a w) {o : ObjK} {ob : Obj} (ho : o.is ρ ob) :
    Holds F T ((nx, .obj o) :: H) (nx + 1) (envSet ρ nx ⟨some ⟨w.heap.size, 0, none⟩, 0⟩) a (w.alloc ob) := by
  have hn : ρ nx = none := by
    cases e : ρ nx with
    | none => rfl
    | some L => have := h.I.dom nx L e; (try dsimp only at this); omega
  have hle := envSet_le (L := ⟨some ⟨w.heap.size, 0, none⟩, 0⟩) hn
  have h4 : NewC (· = nx) ρ (envSet ρ nx ⟨some ⟨w.heap.size, 0, none⟩, 0⟩) (fun k => look k H) (oneMap nx (.obj o)) w (w.alloc ob) := by
    refine newC_one hn (Below.alloc (Below.refl _ _) (Nat.le_refl _) _) ⟨_, _, ob, envSet_same _ _ _, ObjK.is_mono hle ho, heap_alloc_new w _⟩ ?_
    rintro g ⟨L, b, e1, e2, e3⟩
    rw [envSet_same] at e1
    cases e1; cases e2; subst e3
    exact .inl (Nat.le_refl _)
  refine ⟨by have := h.m; omega, ?_⟩
  have hheap := h.I.heap.add h4
  refine (h.I.step h4.le (fun i hi => h4.only i (by have := h.m; omega)) (U' := fun i => i < nx + 1) (fun i L' e => ?_) hheap (fun g hg => ?_) (h.I.touch.trans (Touch.of_below (s := fun _ => False) h4.below) (fun _ h => h.elim)) (KeepM.below h4.below)).sub (fun _ _ _ h => h) (fun _ _ h => h) (fun k c' h => ?_)
  · by_cases hi : i = nx
    · subst hi; (try dsimp only); omega
    · rw [h4.only i hi] at e
      have := h.I.dom i L' e
      (try dsimp only at *); omega
  · rcases owned_add h.I.heap h4 hg with h6 | h6
    · left; have := h.I.touch.size; omega
    · exact h.I.fresh g h6
  · (try dsimp only at h)
    rw [look_cons] at h
    unfold orMap oneMap
    by_cases hk : k = nx
    · subst hk
      rw [if_pos rfl] at h ⊢
      simpa using h
    · rw [if_neg hk] at h ⊢
      simpa using h
/-- A new block for deferred calls, with its mark. -/
theorem holds_mark {T : List (Nat × AV)} {H : List (Nat × Chunk)} {nx : Nat} (h : Holds F T H nx ρ a w) :
    Holds F T H nx ρ { a with defers := mark w.heap.size :: a.defers } (w.alloc (.deferred (some []))) := by
  have hb : Below w.heap.size w (w.alloc (.deferred (some []))) := Below.alloc (Below.refl _ _) (Nat.le_refl _) _
  have h2 := h.I.step (Env.le.refl _) (fun _ _ => rfl) h.I.dom (h.I.heap.below hb) h.I.fresh (h.I.touch.trans (Touch.of_below (s := fun _ => False) hb) (fun _ h => h.elim)) (KeepM.below hb)
  obtain ⟨rs, e1, e2, e3⟩ := h.I.defers
  refine ⟨h.m, h2.size, ⟨w.heap.size :: rs, by rw [e1]; rfl, List.nodup_cons.2 ⟨fun hm => ?_, e2⟩, fun r hr => ?_⟩, h2.tm, h2.heap, h2.dom, h2.keep, h2.fresh, h2.touch⟩
  · have := (Array.getElem?_eq_some_iff.1 (e3 _ hm).2).1; omega
  · rcases List.mem_cons.1 hr with rfl | hr
    · exact ⟨h.I.touch.size, heap_alloc_new w _⟩
    · exact ⟨(e3 r hr).1, (hb.block r (Array.getElem?_eq_some_iff.1 (e3 r hr).2).1).trans (e3 r hr).2⟩

/-- The blocks of marks are shut. -/
theorem holds_left {s : St} (h : HoldsS F s ρ a w) {rs : List Nat} (hd : a.defers = rs.map mark) (hr : ∀ r ∈ rs, F.w0.heap.size ≤ r ∧ w.heap[r]? = some (Obj.deferred (some []))) {w' : World}
    (hk : ∀ g, g ∉ rs → w'.heap[g]? = w.heap[g]?) (hsz : w'.heap.size = w.heap.size) (hos : w'.os = w.os) (htp : w'.tape = w.tape) (hou : w'.output = w.output) : HoldsS F s ρ { a with defers := [] } w' :=
  ⟨h.m, h.I.size, Marks.nil _ _, h.I.tm,
    h.I.heap.ext fun g ⟨i, c, e, hg⟩ => hk g fun hm => Chunk.holds_odd (h.I.heap.holds i c e) hg _ (hr g hm).2,
    h.I.dom, h.I.keep, h.I.fresh, ⟨hos.trans h.I.touch.os, htp.trans h.I.touch.tape, hou.trans h.I.touch.output, by rw [hsz]; exact h.I.touch.size,
      fun k hk' hn => (hk k fun hm => by have := (hr k hm).1; omega).trans (h.I.touch.block k hk' hn)⟩⟩
end

section
variable {F : Frm} {Q : Exit → St → Prop} {cfg : Cfg}

/-- How a range over a function ends. -/
def RangeEnd (k : Nat) (T : List (Nat × AV)) (Q : Exit → St → Prop) (e : Exit) (s : St) : Prop :=
  (e = .normal ∨ e = .ret) ∧ match look k s.H with
    | some (.obj (.rcd _ _ _ _ _ st)) => match st with
      | .ready => Q .normal ⟨T, delA k s.H, s.nx⟩
      | .ret => Q .ret ⟨T, delA k s.H, s.nx⟩
      | .exit id => Q (.exit id) ⟨T, delA k s.H, s.nx⟩
      | .busy => False
    | _ => False

theorem lwp_range (hC : CfgOk F cfg) (hrd : F.rd = none) {g : Operand} {ps : Array Tmp} {assign body : Code} {T : List (Nat × AV)} {H : List (Nat × Chunk)} {nx : Nat} {f : FuncId} {l cap : List AV} {cs : List Cd} {fn : Func} {c : Code}
    (he : ev cfg T [] g = some (.fn f l cap, cs)) (hcs : All cs) (hf : F.P.funcs[f]? = some fn) (hcall : callable fn = true) (hb : fn.body = some c) (hres : fn.results = #[]) {nx' : Nat} (hnx : nxt nx = some nx') (hlen : Nat.ble (l ++ (.yld nx :: cap)).length fn.ntmps = true)
    (h : ∀ F' : Frm, F'.P = F.P → F'.m = nx' → CfgOk F' ⟨fn.ntmps, cfg.tys, cfg.globs⟩ → F'.rd = none → forceK (enumT nums (l ++ (.yld nx :: cap))) [] fun T' => LWP F' c (RangeEnd nx T Q) ⟨T', (nx, .obj (.rcd T cfg.nt ps assign body .ready)) :: H, nx'⟩) :
    LWP F (.rangeFunc g ps assign body) Q ⟨T, H, nx⟩ := by
  cases nxt_eq hnx
  refine ⟨fun ρ a w hs => ?_⟩
  rw [hrd]
  refine wpIn_rangeFunc fun fid _ => ?_
  obtain ⟨_, vg, hg1, hg2⟩ := ev_sound (hC.know hs.I) he hcs
  simp only [AV.den, Option.bind_eq_some_iff, Option.map_eq_some_iff] at hg1
  obtain ⟨x1, e1, x2, e2, rfl⟩ := hg1
  -- the record
  have hm := holds_mark hs
  obtain ⟨ob, hob⟩ : ∃ ob : Obj, ob = .loop { state := .ready, pending := none, fn := fid, tmps := a.tmps, params := ps, assign := assign, body := body, defers := w.heap.size } := ⟨_, rfl⟩
  have hn := holds_new (o := .rcd T cfg.nt ps assign body .ready) (ob := ob) hm ⟨fid, a.tmps, w.heap.size, by rw [hC.nt]; exact hs.I.size, hs.I.tm, hob⟩
  have hwsz : (w.alloc (.deferred (some []))).heap.size = w.heap.size + 1 := by simp
  rw [hwsz] at hn
  obtain ⟨w1, hw1⟩ : ∃ w1, w1 = (w.alloc (.deferred (some []))).alloc ob := ⟨_, rfl⟩
  rw [← hw1] at hn
  obtain ⟨ρ1, hρ1⟩ : ∃ ρ1, ρ1 = envSet ρ nx ⟨some ⟨w.heap.size + 1, 0, none⟩, 0⟩ := ⟨_, rfl⟩
  rw [← hρ1] at hn
  obtain ⟨s1, hs1⟩ : ∃ s1 : St, s1 = ⟨T, (nx, .obj (.rcd T cfg.nt ps assign body .ready)) :: H, nx + 1⟩ := ⟨_, rfl⟩
  have hn' : HoldsS F s1 ρ1 { a with defers := mark w.heap.size :: a.defers } w1 := by rw [hs1]; exact hn
  have hnone : ρ nx = none := by
    cases e : ρ nx with
    | none => rfl
    | some L => have := hs.I.dom nx L e; (try dsimp only at this); omega
  have hle : Env.le ρ ρ1 := by rw [hρ1]; exact envSet_le hnone
  have hρn : ρ1 nx = some ⟨some ⟨w.heap.size + 1, 0, none⟩, 0⟩ := by rw [hρ1]; exact envSet_same _ _ _
  have hargs : AV.denL ρ1 (l ++ (.yld nx :: cap)) = some (x1 ++ (.func (.yield (w.heap.size + 1)) #[] #[] :: x2)) := by
    refine denL_append (AV.denL_mono hle _ _ e1) ?_
    simp only [AV.denL, AV.den, hρn, Option.bind_some, Option.map_some, AV.denL_mono hle _ _ e2, listO]
  refine ⟨w.heap.size + 1, [mark w.heap.size], w1, { target := .fn (.func f) x2.toArray, args := x1.toArray ++ #[.func (.yield (w.heap.size + 1)) #[] #[]] }, w1, f, (x1 ++ (.func (.yield (w.heap.size + 1)) #[] #[] :: x2)).toArray, w1, ?_, ?_, fun _ _ => trivial, ?_, ?_⟩
  · rw [hw1, hob]; exact run_enterLoop_outer fid a.tmps ps assign body
  · simp only [resolve, hg2, Sem.run_bind, Deferred.ofValue, Sem.run_pure, Result.andThen_ok]
    simp [Act.eval]
  · simp only [invoke]
    have := callFunc_run (P := F.P) (w := w1) hf hcall ((x1.toArray ++ #[.func (.yield (w.heap.size + 1)) #[] #[]]) ++ x2.toArray)
    rw [this]
    congr 2
    simp
  · refine And.intro (fun h => by cases h) ?_
    refine callsIn_of_wp_marks (F := fen none) hf hb trivial (wpIn_n (n := 2) ?_) rfl
    obtain ⟨F', hF'⟩ : ∃ F', F' = inner F s1 ρ1 w1 fn.ntmps none := ⟨_, rfl⟩
    have hl := h F' (by rw [hF']; rfl) (by rw [hF', hs1]; rfl) (by rw [hF']; exact inner_cfg hC hn' _ _) (by rw [hF']; rfl)
    rw [force_eq] at hl
    have hrd' : F'.rd = none := by rw [hF']; rfl
    have hP' : F'.P = F.P := by rw [hF']; rfl
    have hst : HoldsS F' ⟨enumT nums (l ++ (.yld nx :: cap)), s1.H, s1.nx⟩ ρ1 { tmps := (x1 ++ (.func (.yield (w.heap.size + 1)) #[] #[] :: x2)).toArray ++ Array.replicate (fn.ntmps - (x1 ++ (.func (.yield (w.heap.size + 1)) #[] #[] :: x2)).toArray.size) undef, defers := [] } w1 := by
      rw [hF']
      have hlen' := denL_len hargs
      refine inner_start hn' ?_ fun k av e => ?_
      · have := Nat.le_of_ble_eq_true hlen
        simp only [Array.size_append, List.size_toArray, Array.size_replicate]; omega
      · obtain ⟨_, h2⟩ := enumT_look _ 300 0 k av (by rw [← List.range_eq_range', ← nums_eq]; exact e)
        obtain ⟨v, h3, h4⟩ := denL_at hargs h2
        refine ⟨v, h3, ?_⟩
        have hk : k < (x1 ++ (.func (.yield (w.heap.size + 1)) #[] #[] :: x2)).length := (List.getElem?_eq_some_iff.1 h4).1
        rw [Array.getElem?_append_left (by simpa using hk)]
        simpa using h4
    have hwp := hl.out ρ1 _ w1 (by rw [hs1] at hst; exact hst)
    rw [hrd', hP'] at hwp
    refine wpIn_mono hwp ?_
    rintro e a2 w2 ⟨s2, ρ2, ⟨hee, hend⟩, hs2⟩
    obtain ⟨rs, hds, hnd, hrs⟩ := hs2.I.defers
    have hfin : LeavesInM Fence.wide (2 - 1) F.P fn a2.tmps (rangePost (fen none) 2 F.P (w.heap.size + 1) (Post F Q) { a with defers := [mark w.heap.size] ++ a.defers }) a2.defers .returning w2 := ?_
    · rcases hee with rfl | rfl
      · exact hfin
      · exact hfin
    rw [hds]
    refine leaves_marks rs w2 hnd (fun r hr => (hrs r hr).2) fun w3 hkk hsz hos htp hou => ?_
    have hs3 := holds_left hs2 hds hrs hkk hsz hos htp hou
    refine ⟨.tuple #[], by simp [results, hres], ?_⟩
    split at hend
    case h_2 => exact hend.elim
    rename_i T2 nt2 ps2 as2 bd2 st hk2
    have hlt : nx < F'.m := by rw [hF', hs1]; show nx < nx + 1; omega
    have hρ2 : ρ2 nx = some ⟨some ⟨w.heap.size + 1, 0, none⟩, 0⟩ := by
      rw [hs3.I.keep nx hlt, hF']; exact hρn
    obtain ⟨g', cap', o3, f1, ⟨fid3, tmps3, df3, f2, f3, f4⟩, f5⟩ := hs3.I.heap.holds nx _ hk2
    rw [hρ2] at f1; cases f1
    subst f4
    have hj := inner_join hn' (by rw [hF'] at hs3; exact hs3)
    have hjd : ∀ ob', HoldsS F ⟨T, delA nx s2.H, s2.nx⟩ ρ2 { a with defers := mark w.heap.size :: a.defers } (w3.putObj (w.heap.size + 1) ob') := fun ob' => by
      have := drop_obj (ob' := ob') hj hk2 hρ2 f5
      rw [hs1] at this
      exact this
    have hbusy : st ≠ .busy := by rintro rfl; exact hend.elim
    refine ⟨_, _, run_endLoop f5 (by cases st <;> first | exact absurd rfl hbusy | (intro h; cases h)), ?_⟩
    cases st with
    | ready => exact ⟨_, ρ2, hend, hjd _⟩
    | busy => exact absurd rfl hbusy
    | ret => exact wpIn_ret ⟨_, ρ2, hend, hjd _⟩
    | exit id => exact wpIn_exit ⟨_, ρ2, hend, hjd _⟩

/-- The operations of a region from here on. -/
structure LOPS (F : Frm) (ops : Array Oper) (idx : List Nat) (Q : Exit → St → Prop) (s : St) : Prop where
  out : ∀ ρ a w, HoldsS F s ρ a w → wpOpsIn (fen F.rd) 2 F.P ops (Post F Q) idx a w
theorem lops_region {id : Nat} {ops : Array Oper} {s : St} (h : LOPS F ops (List.range' 0 ops.toList.length) Q s) : LWP F (.region id ops false) Q s := ⟨fun ρ a w hs => by
  refine wpIn_region ?_
  rw [List.range_eq_range', ← Array.length_toList]
  exact h.out ρ a w hs⟩
theorem lops_nil {ops : Array Oper} {s : St} (h : Q .normal s) : LOPS F ops [] Q s := ⟨fun ρ _ _ hs => ⟨s, ρ, h, hs⟩⟩
theorem runOps_then (hC : CfgOk F cfg) {t : Told} (ht : t.ok F.P) {ops : Array Oper} {idx : List Nat} : ∀ {rest : List Oper} {i : Nat} {T : List (Nat × AV)} {H : List (Nat × Chunk)} {nx : Nat} {css css' : List (List Cd)} {s : St},
    (∀ j o, rest[j]? = some o → ops[i + j]? = some o) → runOps cfg t ops.toList i rest T H nx css = some (s, css') → AllL css' → LOPS F ops idx Q s →
    ∀ {ρ : Env} {a : Act} {w : World}, Holds F T H nx ρ a w → wpOpsIn (fen F.rd) 2 F.P ops (Post F Q) (List.range' i rest.length ++ idx) a w
  | [], i, T, H, nx, css, css', s, _, h, hc, hq, ρ, a, w, hH => by
    cases h
    simp only [List.length_nil, List.range'_zero, List.nil_append]
    exact hq.out ρ a w hH
  | o :: rest, i, T, H, nx, css, css', s, hr, h, hc, hq, ρ, a, w, hH => by
    simp only [runOps] at h
    split at h
    · rename_i T' H' nx' cs h1
      have ho : ops[i]? = some o := by have := hr 0 o rfl; simpa using this
      rw [List.length_cons, List.range'_succ, List.cons_append, wpOpsIn_cons]
      have hr' : ∀ j o', rest[j]? = some o' → ops[i + 1 + j]? = some o' := fun j o' e => by have := hr (j + 1) o' (by simpa using e); rw [← this]; congr 1; omega
      split at h
      · exact (stepOp_sound hC ht hH ho h1 trivial (fun ρ' a' w' _ hH' => runOps_then hC ht hr' h hc hq hH')).2
      · have h2 := (runOps_acc h hc).1
        exact (stepOp_sound hC ht hH ho h1 h2 (fun ρ' a' w' _ hH' => runOps_then hC ht hr' h hc hq hH')).2
    · cases h

/-- The values that a round is given. -/
def zipT (nt : Nat) : List Tmp → List AV → List (Nat × AV) → Option (List (Nat × AV))
  | [], [], T => some T
  | p :: ps, v :: vs, T => match Nat.blt p nt with
    | true => zipT nt ps vs ((p, v) :: T)
    | false => none
  | _, _, _ => none
theorem zipT_sound {ρ : Env} {nt : Nat} : ∀ {ps : List Tmp} {l : List AV} {T T' : List (Nat × AV)} {vs : List Value} {tmps : Array Value}, zipT nt ps l T = some T' → AV.denL ρ l = some vs → tmps.size = nt →
    (∀ k av, look k T = some av → ∃ v, av.den ρ = some v ∧ tmps[k]? = some v) →
    ps.length = vs.length ∧ ((ps.zip vs).foldl (fun tmps (t, a) => tmps.setIfInBounds t a) tmps).size = nt ∧ ∀ k av, look k T' = some av → ∃ v, av.den ρ = some v ∧ ((ps.zip vs).foldl (fun tmps (t, a) => tmps.setIfInBounds t a) tmps)[k]? = some v
  | [], [], T, T', vs, tmps, h, hd, hs, ht => by
    cases h
    cases hd
    exact ⟨rfl, hs, ht⟩
  | [], _ :: _, T, T', vs, tmps, h, hd, hs, ht => by cases h
  | _ :: _, [], T, T', vs, tmps, h, hd, hs, ht => by cases h
  | p :: ps, v :: l, T, T', vs, tmps, h, hd, hs, ht => by
    simp only [zipT] at h
    split at h
    · rename_i hb
      have hlt : p < nt := Nat.le_of_ble_eq_true hb
      simp only [AV.denL] at hd
      obtain ⟨u, us, h1, h2, rfl⟩ := listO_some hd
      obtain ⟨h3, h4, h5⟩ := zipT_sound (tmps := tmps.setIfInBounds p u) h h2 (by simp [hs]) fun k av e => by
        rw [look_cons] at e
        by_cases hk : k = p
        · subst hk
          rw [if_pos rfl] at e
          cases e
          exact ⟨u, h1, by simp [hs, hlt]⟩
        · rw [if_neg hk] at e
          obtain ⟨x, x1, x2⟩ := ht k av e
          exact ⟨x, x1, by rw [Array.getElem?_setIfInBounds_ne (Ne.symm hk)]; exact x2⟩
      exact ⟨by simp [h3], by simpa using h4, fun k av e => by simpa using h5 k av e⟩
    · cases h

/-- The call of a range's yield: the record's number, the round. -/
structure YieldC where
  k : Nat
  T : List (Nat × AV)
  nt : Nat
  ps : Array Tmp
  assign : Code
  body : Code
  Tr : List (Nat × AV)
def yieldA (cfg : Cfg) (o : Oper) (s : St) : Option (YieldC × List Cd) :=
  match o.op with
  | .call ⟨.value g, args, _⟩ => match ev cfg s.T [] g with
    | some (.yld k, acc) => match evL cfg s.T args.toList acc, look k s.H with
      | some (as, acc1), some (.obj (.rcd T nt ps assign body .ready)) => match zipT nt ps.toList as T with
        | some Tr => some (⟨k, T, nt, ps, assign, body, Tr⟩, acc1)
        | none => none
      | _, _ => none
    | _ => none
  | _ => none

/-- How a round ends, and what then is: K is what is asked behind the call. -/
def RoundEnd (y : YieldC) (K : Bool → List (Nat × Chunk) → Nat → Prop) (e : Exit) (s : St) : Prop :=
  match look y.k s.H with
  | some (.obj (.rcd T nt ps assign body .busy)) => match e with
    | .normal => K true (setA y.k (.obj (.rcd T nt ps assign body .ready)) s.H) s.nx
    | .ret => K false (setA y.k (.obj (.rcd T nt ps assign body .ret)) s.H) s.nx
    | .exit id => K false (setA y.k (.obj (.rcd T nt ps assign body (.exit id))) s.H) s.nx
    | _ => False
  | _ => False
/-- What is asked behind the assignments ahead of a round. -/
def RoundBegin (F : Frm) (y : YieldC) (K : Bool → List (Nat × Chunk) → Nat → Prop) (e : Exit) (s : St) : Prop :=
  e = .normal ∧ match look y.k s.H with
  | some (.obj (.rcd T nt ps assign body .ready)) => LWP F y.body (RoundEnd y K) ⟨s.T, setA y.k (.obj (.rcd T nt ps assign body .busy)) s.H, s.nx⟩
  | _ => False

theorem yield_sound (hC : CfgOk F cfg) {o : Oper} {s : St} {y : YieldC} {cs : List Cd} (hy : yieldA cfg o s = some (y, cs)) (hcs : All cs) {K : Bool → List (Nat × Chunk) → Nat → Prop}
    (hr : ∀ F' : Frm, F'.P = F.P → F'.m = s.nx → CfgOk F' ⟨y.nt, cfg.tys, cfg.globs⟩ → LWP F' y.assign (RoundBegin F' y K) ⟨y.Tr, s.H, s.nx⟩)
    {ρ : Env} {a : Act} {w : World} (hs : HoldsS F s ρ a w) {KK : Act → World → Prop} {QQ : Exit → Act → World → Prop}
    (hK : ∀ b H' nx', K b H' nx' → ∀ ρ' w', HoldsS F ⟨s.T, H', nx'⟩ ρ' a w' → KK (a.put o.dst (.bool b)) w') : o.wpIn (fen F.rd) 2 F.P a w KK QQ := by
  unfold yieldA at hy
  split at hy
  case h_2 => cases hy
  rename_i g args ts ho
  split at hy
  case h_2 => cases hy
  rename_i k acc h1
  split at hy
  case h_2 => cases hy
  rename_i as acc1 T nt ps assign body h2 hk
  split at hy
  case h_2 => cases hy
  rename_i Tr hz
  cases hy
  dsimp only at hr
  have hkn := hC.know hs.I
  obtain ⟨hc1, vs, hv1, hv2⟩ := evL_sound hkn h2 hcs
  obtain ⟨_, vg, hg1, hg2⟩ := ev_sound hkn h1 hc1
  obtain ⟨l, cap, ob, f1, ⟨fid, tmps, df, f2, f3, f4⟩, f5⟩ := hs.I.heap.holds k _ hk
  subst f4
  simp only [AV.den, f1, Option.bind_some, Option.map_some, Option.some.injEq] at hg1
  subst hg1
  obtain ⟨q1, q2, q3⟩ := zipT_sound hz hv1 f2 f3
  have hsz : vs.toArray.size = ps.size := by simp only [List.size_toArray]; rw [← q1]; simp
  have hrun : (execOp a.eval o).run F.P w = .ok (.round l fid ((ps.zip vs.toArray).foldl (fun tmps (t, a) => tmps.setIfInBounds t a) tmps) assign body) w := by
    simp only [execOp, ho, resolve, Sem.run_bind, arr_map _ _ hv2, hg2, Deferred.ofValue, Sem.run_pure, Result.andThen_ok, invoke]
    simpa using run_yield (P := F.P) (args := vs.toArray) f5 hsz
  have hfold : (ps.zip vs.toArray).foldl (fun tmps (t, a) => tmps.setIfInBounds t a) tmps = (ps.toList.zip vs).foldl (fun tmps (t, a) => tmps.setIfInBounds t a) tmps := by
    rw [← Array.foldl_toList]; simp
  rw [hfold] at hrun
  obtain ⟨tm2, htm2⟩ : ∃ tm2, tm2 = (ps.toList.zip vs).foldl (fun tmps (t, a) => tmps.setIfInBounds t a) tmps := ⟨_, rfl⟩
  rw [← htm2] at hrun q2 q3
  refine ⟨fun _ _ => trivial, ?_⟩
  rw [Oper.semAt_eq _ _ _ (by rw [ho]; intro c hc; cases hc), hrun, Oper.uponIn_round]
  refine And.intro (fun h => by cases h) ?_
  refine roundIn_of_wpIn trivial ?_
  show assign.wpIn (fen (some l)) (2 - 1) F.P _ { tmps := tm2, defers := [] } w
  refine wpIn_n (n := 2) ?_
  obtain ⟨F', hF'⟩ : ∃ F', F' = inner F s ρ w nt (some l) := ⟨_, rfl⟩
  have hP' : F'.P = F.P := by rw [hF']; rfl
  have hrd' : F'.rd = some l := by rw [hF']; rfl
  have hl := hr F' hP' (by rw [hF']; rfl) (by rw [hF']; exact inner_cfg hC hs _ _)
  have hst : HoldsS F' ⟨Tr, s.H, s.nx⟩ ρ { tmps := tm2, defers := [] } w := by rw [hF']; exact inner_start hs q2 q3
  have hkm : k < F'.m := by rw [hF']; exact hs.I.dom k _ f1
  have hwp := hl.out ρ _ w hst
  rw [hrd', hP'] at hwp
  refine wpIn_mono hwp ?_
  rintro e a1 w1 ⟨s1, ρ1, ⟨rfl, hbeg⟩, hs1⟩
  split at hbeg
  case h_2 => exact hbeg.elim
  rename_i T1 nt1 ps1 as1 bd1 hk1
  have hρ1 : ρ1 k = some ⟨some ⟨l, 0, none⟩, cap⟩ := by rw [hs1.I.keep k hkm, hF']; exact f1
  obtain ⟨l1, cap1, ob1, g1, ⟨fid1, tmps1, df1, g2, g3, g4⟩, g5⟩ := hs1.I.heap.holds k _ hk1
  rw [hρ1] at g1; cases g1
  subst g4
  refine ⟨_, run_beginRound g5 rfl, wpIn_n (n := 2) ?_⟩
  have hs2 := holds_obj (o' := .rcd T1 nt1 ps1 as1 bd1 .busy) (ob' := .loop { state := .busy, pending := none, fn := fid1, tmps := tmps1, params := ps1, assign := as1, body := bd1, defers := df1 }) hs1 hk1 hρ1 g5 ⟨fid1, tmps1, df1, g2, g3, rfl⟩
  have hwp2 := hbeg.out ρ1 a1 _ hs2
  rw [hrd', hP'] at hwp2
  refine wpIn_mono hwp2 ?_
  rintro e a3 w3 ⟨s3, ρ3, hend, hs3⟩
  unfold RoundEnd at hend
  split at hend
  case h_2 => exact hend.elim
  rename_i T3 nt3 ps3 as3 bd3 hk3
  have hρ3 : ρ3 k = some ⟨some ⟨l, 0, none⟩, cap⟩ := by rw [hs3.I.keep k hkm, hF']; exact f1
  obtain ⟨l3, cap3, ob3, p1, ⟨fid3, tmps3, df3, p2, p3, p4⟩, p5⟩ := hs3.I.heap.holds k _ hk3
  rw [hρ3] at p1; cases p1
  subst p4
  have fin : ∀ (st : RecSt) (jump : Option Code) (ls : LoopState), st.state = ls → st.jump = jump → ∀ b, K b (setA k (.obj (.rcd T3 nt3 ps3 as3 bd3 st)) s3.H) s3.nx →
      KK (a.put o.dst (.bool b)) (w3.putObj l (.loop { state := ls, pending := jump, fn := fid3, tmps := tmps3, params := ps3, assign := as3, body := bd3, defers := df3 })) := fun st jump ls e1 e2 b hb => by
    subst e1 e2
    refine hK b _ _ hb ρ3 _ ?_
    have h4 := holds_obj (o' := .rcd T3 nt3 ps3 as3 bd3 st) (ob' := .loop { state := st.state, pending := st.jump, fn := fid3, tmps := tmps3, params := ps3, assign := as3, body := bd3, defers := df3 }) hs3 hk3 hρ3 p5 ⟨fid3, tmps3, df3, p2, p3, rfl⟩
    rw [hF'] at h4
    exact inner_join hs h4
  cases e with
  | normal => exact ⟨_, _, run_endRound none p5, fin .ready none .ready rfl rfl true hend⟩
  | ret => exact ⟨_, _, run_endRound (some .ret) p5, fin .ret (some .ret) .done rfl rfl false hend⟩
  | exit id => exact ⟨_, _, run_endRound (some (.exit id)) p5, fin (.exit id) (some (.exit id)) .done rfl rfl false hend⟩
  | goto t => exact hend.elim
  | panic c => exact hend.elim
  | outgrown => exact hend.elim

/-- A call of yield in a region. -/
theorem lops_yield (hC : CfgOk F cfg) {ops : Array Oper} {j : Nat} {idx : List Nat} {o : Oper} (ho : ops[j]? = some o) {s : St} (hg : ∀ i want, o.guard = some (i, want) → guardOf ops.toList s.T i want = some true) {y : YieldC} {cs : List Cd} (hy : yieldA cfg o s = some (y, cs)) (hcs : All cs)
    (hr : ∀ F' : Frm, F'.P = F.P → F'.m = s.nx → CfgOk F' ⟨y.nt, cfg.tys, cfg.globs⟩ → LWP F' y.assign (RoundBegin F' y fun b H' nx' => ∃ T', putT cfg.nt o.dst (.lit (.bool b)) s.T = some T' ∧ LOPS F ops idx Q ⟨T', H', nx'⟩) ⟨y.Tr, s.H, s.nx⟩) :
    LOPS F ops (j :: idx) Q s := ⟨fun ρ a w hs => by
  have hw : Region.wanted o (yielded ops a.tmps) = true := by
    cases hgd : o.guard with
    | none => simp [Region.wanted, hgd]
    | some p => obtain ⟨i, want⟩ := p; exact guardOf_sound hs hgd (hg i want hgd)
  rw [wpOpsIn_cons]
  refine wpOpIn_on ho hw (yield_sound hC hy hcs hr hs ?_)
  rintro b H' nx' ⟨T', h1, h2⟩ ρ' w' hs'
  exact h2.out ρ' _ w' (putT_sound hC hs' h1 (by simp [AV.den]))⟩
end

section
variable {cfg : Cfg} {F : Frm} {t : Told} {ops : Array Oper} {cl : List Nat} {T0 : List (Nat × AV)} {H0 : List (Nat × Chunk)} {nx0 m : Nat} {R : List Res} {Q : Exit → St → Prop}

/-- Where a run in some order may stand. -/
def Stand3 (F : Frm) (ops : Array Oper) (T0 : List (Nat × AV)) (H0 : List (Nat × Chunk)) (nx0 m : Nat) (R : List Res) (Q : Exit → St → Prop) (listed : Array Bool) (a : Act) (w : World) : Prop :=
  ((∃ i, i < m ∧ got listed i = false) ∧ (∀ i, got listed i = true → i < m) ∧ ∃ ρ, Part F T0 H0 nx0 R (got listed) ρ a w) ∨
  (∃ j, m ≤ j ∧ j ≤ ops.size ∧ (∀ i, got listed i = true ↔ i < j) ∧ wpOpsIn (fen F.rd) 2 F.P ops (Post F Q) (List.range' j (ops.size - j)) a w)

theorem drawn_then (hC : CfgOk F cfg) (ht : t.ok F.P) (hcl : clOk cl m ops.toList 0 = true) (hg : Good cfg t ops cl T0 H0 nx0 R) (hRl : R.length = m) (hmn : m ≤ ops.size) (hH0 : ∀ i c, look i H0 = some c → i < nx0) (hm : F.m ≤ nx0)
    (hcont : ∀ ρ a w, Holds F (tE (fun _ => true) R ++ T0) (hE (fun _ => true) R ++ H0) (nxOf nx0 R) ρ a w → wpOpsIn (fen F.rd) 2 F.P ops (Post F Q) (List.range' m (ops.size - m)) a w) :
    ∀ (fuel : Nat) (listed : Array Bool) (a : Act) (w : World), listed.size = ops.size → Closed cl listed → (List.range ops.size).countP (fun i => !got listed i) ≤ fuel → Stand3 F ops T0 H0 nx0 m R Q listed a w →
      wpAnyIn (fen F.rd) 2 F.P .any ops (Post F Q) fuel listed a w := by
  have hcm : ∀ i o, ops[i]? = some o → ∃ c, nth cl i = some c ∧ (∀ e ∈ o.after, Region.binds .any e = true → e.on < i) ∧
      (∀ k, c.testBit k = true → ∃ e ∈ o.after, Region.binds .any e = true ∧ (k = e.on ∨ ∃ c', nth cl e.on = some c' ∧ c'.testBit k = true)) ∧ (m ≤ i → ∀ k, k < i → c.testBit k = true) := by
    intro i o h
    have := clOk_mem hcl i o (by rw [Array.getElem?_toList]; exact h)
    simpa using this
  -- what a ready operation waits for is listed
  have waits : ∀ {listed : Array Bool} {i : Nat} {o : Oper}, Closed cl listed → ops[i]? = some o → (∀ e ∈ o.after, Region.binds .any e = true → got listed e.on = true) → ∀ c k, nth cl i = some c → c.testBit k = true → got listed k = true := by
    intro listed i o hcd ho hdep c k h1 h2
    obtain ⟨c', a1, _, a3, _⟩ := hcm i o ho
    rw [h1] at a1; cases a1
    obtain ⟨e, b1, b2, b3⟩ := a3 k h2
    have := hdep e b1 b2
    rcases b3 with rfl | ⟨c', b4, b5⟩
    · exact this
    · exact hcd e.on c' k this b4 b5
  -- if something is not listed, something is ready
  have some_ready : ∀ {listed : Array Bool}, listed.size = ops.size → ∀ i, i < ops.size → got listed i = false → ∃ j, j ∈ Region.ready .any ops listed := by
    intro listed hs i
    induction i using Nat.strongRecOn with
    | _ i ih =>
      intro hi hn
      by_cases hall : ∀ e ∈ (ops[i]).after, Region.binds .any e = true → got listed e.on = true
      · exact ⟨i, (ready_iff hs).2 ⟨ops[i], by simp [hi], hn, hall⟩⟩
      · have : ∃ e ∈ (ops[i]).after, Region.binds .any e = true ∧ got listed e.on = false := by
          refine Classical.byContradiction fun hcon => ?_
          refine hall fun e he hb => ?_
          by_cases hge : got listed e.on = true
          · exact hge
          · exact absurd ⟨e, he, hb, by simpa using hge⟩ hcon
        obtain ⟨e, he, hb, hge⟩ := this
        obtain ⟨_, _, h2, _⟩ := hcm i ops[i] (by simp [hi])
        have hlt := h2 e he hb
        exact ih e.on hlt (by omega) hge
  have toB : ∀ {listed : Array Bool} {ρ : Env} {a : Act} {w : World}, (∀ i, i < m → got listed i = true) → Part F T0 H0 nx0 R (got listed) ρ a w → Holds F (tE (fun _ => true) R ++ T0) (hE (fun _ => true) R ++ H0) (nxOf nx0 R) ρ a w := by
    intro listed ρ a w hl hp
    have hge := hg.ge
    have hid : ∀ x ∈ R, x ∈ R := fun _ h => h
    have hall : ∀ x ∈ R, (fun _ : Nat => true) x.i = true → got listed x.i = true ∧ x ∈ R := fun x hx _ => ⟨hl x.i (by rw [← hRl]; exact (hge.2 x hx).2.2), hx⟩
    refine ⟨by omega, Interp.sub hp (fun i L _ h => ?_) (fun k v h => hg.tSub hid hid hall h) (fun k v h => hg.hSub hH0 hid hid hall h)⟩
    rcases h with h | ⟨r, h1, _, h2, h3⟩
    · show i < _; omega
    · have := (hge.2 r h1).2.1; show i < _; omega
  have all_listed_ready : ∀ {listed : Array Bool} {j : Nat}, listed.size = ops.size → Closed cl listed → m ≤ j → (∀ i, got listed i = true ↔ i < j) → ∀ i ∈ Region.ready .any ops listed, i = j := by
    intro listed j hs hcd hmj hl i hi
    obtain ⟨o, h1, h2, h3⟩ := (ready_iff hs).1 hi
    have hji : ¬ i < j := fun h => by rw [(hl i).2 h] at h2; cases h2
    by_cases hij : i = j
    · exact hij
    · obtain ⟨c, a1, _, _, a4⟩ := hcm i o h1
      have := waits hcd h1 h3 c j a1 (a4 (by omega) j (by omega))
      have := (hl j).1 this
      omega
  intro fuel
  induction fuel with
  | zero =>
    intro listed a w hs hcd hcount hst
    have hall : ∀ i, i < ops.size → got listed i = true := by
      intro i hi
      have h0 : (List.range ops.size).countP (fun i => !got listed i) = 0 := by omega
      rw [List.countP_eq_zero] at h0
      have := h0 i (List.mem_range.2 hi)
      simpa using this
    have hempty : Region.ready .any ops listed = [] := by
      rw [List.eq_nil_iff_forall_not_mem]
      intro i hi
      obtain ⟨o, h1, h2, _⟩ := (ready_iff hs).1 hi
      rw [hall i (Array.getElem?_eq_some_iff.1 h1).1] at h2; cases h2
    refine ⟨hempty, ?_⟩
    rcases hst with ⟨⟨i, h1, h2⟩, _⟩ | ⟨j, h1, h2, h3, h5⟩
    · rw [hall i (by omega)] at h2; cases h2
    · have hj : j = ops.size := by
        rcases Nat.lt_or_ge j ops.size with h | h
        · exact absurd ((h3 j).1 (hall j h)) (by omega)
        · omega
      rw [hj, Nat.sub_self] at h5
      exact h5
  | succ fuel ih =>
    intro listed a w hs hcd hcount hst
    have next : ∀ {i : Nat} {o : Oper}, ops[i]? = some o → got listed i = false → (∀ e ∈ o.after, Region.binds .any e = true → got listed e.on = true) → (listed.setIfInBounds i true).size = ops.size ∧ Closed cl (listed.setIfInBounds i true) ∧
        (List.range ops.size).countP (fun k => !got (listed.setIfInBounds i true) k) ≤ fuel := by
      intro i o ho hn hdep
      have hi : i < listed.size := by rw [hs]; exact (Array.getElem?_eq_some_iff.1 ho).1
      refine ⟨by simp [hs], fun x c k h1 h2 h3 => ?_, ?_⟩
      · rw [got_set hi] at h1 ⊢
        rcases h1 with h1 | rfl
        · exact .inl (hcd x c k h1 h2 h3)
        · exact .inl (waits hcd ho hdep c k h2 h3)
      · have := countP_lt (p := fun k => !got listed k) (q := fun k => !got (listed.setIfInBounds i true) k) (l := List.range ops.size) (x := i) (List.mem_range.2 (by omega)) (fun y hy => ?_) (by simp [hn]) (by
          have := (got_set hi i).2 (.inr rfl); simp [this])
        · omega
        · simp only [Bool.not_eq_true', Bool.not_eq_true] at hy ⊢
          cases h : got listed y with
          | false => rfl
          | true => rw [(got_set hi y).2 (.inl h)] at hy; cases hy
    have seqStep : ∀ {j : Nat}, m ≤ j → (∀ i, got listed i = true ↔ i < j) → wpOpsIn (fen F.rd) 2 F.P ops (Post F Q) (List.range' j (ops.size - j)) a w →
        ∀ {o : Oper}, ops[j]? = some o → (∀ e ∈ o.after, Region.binds .any e = true → got listed e.on = true) → wpOpIn (fen F.rd) 2 F.P ops (Post F Q) j (wpAnyIn (fen F.rd) 2 F.P .any ops (Post F Q) fuel (listed.setIfInBounds j true)) a w := by
      intro j hmj hl h5 o ho hdep
      have hj : j < ops.size := (Array.getElem?_eq_some_iff.1 ho).1
      have hn : got listed j = false := by
        cases h : got listed j with
        | false => rfl
        | true => have := (hl j).1 h; omega
      obtain ⟨b1, b2, b3⟩ := next ho hn hdep
      have e : ops.size - j = (ops.size - (j + 1)) + 1 := by omega
      rw [e, List.range'_succ, wpOpsIn_cons] at h5
      refine wpOpIn_mono (fun a' w' h => ih _ a' w' b1 b2 b3 (.inr ⟨j + 1, by omega, by omega, fun i => ?_, h⟩)) h5
      rw [got_set (by omega), hl]
      omega
    refine ⟨fun hempty => ?_, fun i hi => ?_⟩
    · rcases hst with ⟨⟨i, h1, h2⟩, _⟩ | ⟨j, h1, h2, h3, h5⟩
      · obtain ⟨k, hk⟩ := some_ready hs i (by omega) h2
        rw [hempty] at hk; cases hk
      · have hj : j = ops.size := by
          rcases Nat.lt_or_ge j ops.size with h | h
          · have hnj : got listed j = false := by
              cases hx : got listed j with
              | false => rfl
              | true => have := (h3 j).1 hx; omega
            obtain ⟨k, hk⟩ := some_ready hs j h hnj
            rw [hempty] at hk; cases hk
          · omega
        rw [hj, Nat.sub_self] at h5
        exact h5
    · obtain ⟨o, h1, h2, h3⟩ := (ready_iff hs).1 hi
      rcases hst with ⟨⟨u, hu1, hu2⟩, hst1, ρ, hp⟩ | ⟨j, hmj, hjn, hl, hH⟩
      · have him : i < m := by
          rcases Nat.lt_or_ge i m with h | h
          · exact h
          · obtain ⟨c, a1, _, _, a4⟩ := hcm i o h1
            have := waits hcd h1 h3 c u a1 (a4 h u (by omega))
            rw [this] at hu2; cases hu2
        obtain ⟨r, hr, hri⟩ := hg.get i (by omega)
        obtain ⟨b1, b2, b3⟩ := next h1 h2 h3
        have hil : i < listed.size := by rw [hs]; exact (Array.getElem?_eq_some_iff.1 h1).1
        subst hri
        refine part_step (Q := Post F Q) hC ht hg hH0 hm hp hr h2 (fun c k hcc hb => ?_) (D' := got (listed.setIfInBounds r.i true)) (fun k => got_set hil k) fun ρ' a' w' hp' => ih _ a' w' b1 b2 b3 ?_
        · rw [bitAt_eq] at hb
          exact waits hcd h1 h3 c k hcc hb
        · have hl' : ∀ k, got (listed.setIfInBounds r.i true) k = true → k < m := fun k hk => by
            rcases (got_set hil k).1 hk with h | rfl
            · exact hst1 k h
            · exact him
          by_cases hall : ∃ k, k < m ∧ got (listed.setIfInBounds r.i true) k = false
          · exact .inl ⟨hall, hl', ρ', hp'⟩
          · have hall' : ∀ k, k < m → got (listed.setIfInBounds r.i true) k = true := fun k hk => by
              cases hx : got (listed.setIfInBounds r.i true) k with
              | true => rfl
              | false => exact absurd ⟨k, hk, hx⟩ hall
            exact .inr ⟨m, Nat.le_refl _, hmn, fun k => ⟨hl' k, hall' k⟩, hcont _ _ _ (toB hall' hp')⟩
      · have := all_listed_ready hs hcd hmj hl i hi
        subst this
        exact seqStep hmj hl hH h1 h3

/-- A region that draws its order up to an operation from which on there is but one. -/
def preDrawn (cfg : Cfg) (t : Told) (cl : List Nat) (m : Nat) (ops : List Oper) (T : List (Nat × AV)) (H : List (Nat × Chunk)) (nx : Nat) : Option (St × List (List Cd)) :=
  match clOk cl m ops 0 with
  | true => forceK (delKeys ops m T) [] fun T0 => match stab cfg t ops cl T0 H m 0 ops nx [] [] with
    | some (R, nx1, css) => forceK (tE (fun _ => true) R ++ T0) [] fun T1 => forceK (hE (fun _ => true) R ++ H) [] fun H1 => some (⟨T1, H1, nx1⟩, css)
    | none => none
  | false => none
theorem stab_len {cfg : Cfg} {t : Told} {ops : List Oper} {cl : List Nat} {T0 : List (Nat × AV)} {H0 : List (Nat × Chunk)} : ∀ {m j : Nat} {rest : List Oper} {nx : Nat} {R : List Res} {css : List (List Cd)} {x : List Res × Nat × List (List Cd)}, stab cfg t ops cl T0 H0 m j rest nx R css = some x → m ≤ rest.length
  | 0, j, rest, nx, R, css, x, h => Nat.zero_le _
  | m + 1, j, [], nx, R, css, x, h => by cases h
  | m + 1, j, o :: rest, nx, R, css, x, h => by
    simp only [stab, force_eq] at h
    split at h
    · split at h
      · split at h
        · split at h
          · have := stab_len h; simp only [List.length_cons]; omega
          · have := stab_len h; simp only [List.length_cons]; omega
        · cases h
      · cases h
    · cases h
theorem preDrawn_le {cfg : Cfg} {t : Told} {cl : List Nat} {m : Nat} {ops : Array Oper} {T : List (Nat × AV)} {H : List (Nat × Chunk)} {nx : Nat} {x : St × List (List Cd)} (h : preDrawn cfg t cl m ops.toList T H nx = some x) : m ≤ ops.size := by
  unfold preDrawn at h
  split at h
  · rw [force_eq] at h
    split at h
    · rename_i hs
      have := stab_len hs
      simpa using this
    · cases h
  · cases h
theorem lwp_drawn_pre (hC : CfgOk F cfg) (hmx : F.P.follows .mixedOrders = true) (t : Told) (ht : t.ok F.P) (cl : List Nat) (m : Nat) {id : Nat} {ops : Array Oper} {T : List (Nat × AV)} {H : List (Nat × Chunk)} {nx : Nat} {s' : St} {css : List (List Cd)}
    (h : preDrawn cfg t cl m ops.toList T H nx = some (s', css)) (hc : AllL css) (hq : LOPS F ops (List.range' m (ops.size - m)) Q s') : LWP F (.region id ops true) Q ⟨T, H, nx⟩ := ⟨fun ρ a w hs => by
  unfold preDrawn at h
  split at h
  case h_2 => cases h
  rename_i hcl
  rw [force_eq] at h
  split at h
  case h_2 => cases h
  rename_i R nx1 css1 hstab
  rw [force_eq, force_eq] at h
  cases h
  have hs1 : Holds F T H nx ρ a { w with drawn := w.drawn + 1 } := Holds.drew hs
  obtain ⟨_, hg, hRl, hnx⟩ := stab_good (nx0 := nx) hstab (fun k => by simp) trivial rfl rfl hc
  subst hnx
  have hRl : R.length = m := by omega
  have hmn : m ≤ ops.size := by
    rcases Nat.lt_or_ge ops.size m with hlt | hge
    · have h0 : 0 < R.length := by omega
      obtain ⟨r, hr, hri⟩ := hg.get (m - 1) (by omega)
      obtain ⟨_, _, _, _, o, _, _, e, _⟩ := hg.key r hr
      have := (Array.getElem?_eq_some_iff.1 e).1
      omega
    · exact hge
  have hH0 : ∀ i c, look i H = some c → i < nx := by
    intro i c e
    have hh := hs1.I.heap.holds i c e
    have : ∃ L, ρ i = some L := by
      cases c with
      | blk t l => obtain ⟨g, cap, vs, e, _⟩ := hh; exact ⟨_, e⟩
      | rb t l => obtain ⟨g, cap, vs, e, _⟩ := hh; exact ⟨_, e⟩
      | row t n sz c => obtain ⟨L, vs, e, _⟩ := hh; exact ⟨_, e⟩
      | ro n sz c => obtain ⟨L, vs, e, _⟩ := hh; exact ⟨_, e⟩
      | obj k => obtain ⟨b, cap, vs, e, _⟩ := hh; exact ⟨_, e⟩
    obtain ⟨L, hL⟩ := this
    exact hs1.I.dom i L hL
  refine wpIn_region_any hmx ?_
  have hgot0 : ∀ k, got (Array.replicate ops.size false) k = false := by
    intro k; unfold got; rw [Array.getD_eq_getD_getElem?, Array.getElem?_replicate]; split <;> rfl
  refine drawn_then hC ht hcl hg hRl hmn hH0 hs1.m (fun ρ a w hh => hq.out ρ a w hh) ops.size _ a _ (by simp) (fun i c k hi => (by rw [hgot0] at hi; cases hi)) (by have := List.countP_le_length (p := fun i => !got (Array.replicate ops.size false) i) (l := List.range ops.size); simpa using this) ?_
  have hT0 : Interp F (fun i => i < nx) (fun k => look k (delKeys ops.toList m T)) (fun k => look k H) ρ a { w with drawn := w.drawn + 1 } := hs1.I.sub (fun _ _ _ h => h) (fun k v h => delKeys_look h) (fun _ _ h => h)
  have emptyT : ∀ {R : List Res} {D : Nat → Bool}, (∀ k, D k = false) → tE D R = [] ∧ hE D R = [] := by
    intro R D hD
    induction R with
    | nil => exact ⟨rfl, rfl⟩
    | cons r R ih => simp only [tE, hE, hD]; exact ih
  by_cases hm0 : m = 0
  · subst hm0
    have : R = [] := List.eq_nil_of_length_eq_zero hRl
    subst this
    refine .inr ⟨0, Nat.le_refl _, Nat.zero_le _, fun i => ?_, hq.out ρ a _ ⟨hs1.m, ?_⟩⟩
    · rw [hgot0]; simp
    · simpa [tE, hE, nxOf] using hT0
  · refine .inl ⟨⟨0, by omega, hgot0 0⟩, fun i hi => (by rw [hgot0] at hi; cases hi), ρ, ?_⟩
    unfold Part
    obtain ⟨e1, e2⟩ := emptyT (R := R) hgot0
    rw [e1, e2]
    exact hT0.sub (fun i L _ h => .inl h) (fun _ _ h => by simpa using h) (fun _ _ h => by simpa using h)⟩

end
end Go.Sym
