/- Tables in a run: steps that turn no memory, only what is said of it: rows are put into a family; and the end of a region behind a drawn beginning. No program in sight. -/
import Derived.Test.YtccddhoeampdjaaGreatDoorSymP
set_option linter.unusedVariables false
set_option linter.unusedSimpArgs false
namespace Go.Sym
open Go.RowKit

theorem lops_tail {cfg : Cfg} {F : Frm} (hC : CfgOk F cfg) {t : Told} (ht : t.ok F.P) {ops : Array Oper} {i : Nat} (hi : i ≤ ops.size) {T : List (Nat × AV)} {H : List (Nat × Chunk)} {nx : Nat} {s : St} {css : List (List Cd)} {Q : Exit → St → Prop}
    (h : runOps cfg t ops.toList i (ops.toList.drop i) T H nx [] = some (s, css)) (hc : AllL css) (hq : Q .normal s) : LOPS F ops (List.range' i (ops.size - i)) Q ⟨T, H, nx⟩ := ⟨fun ρ a w hs => by
  have := runOps_then hC ht (idx := []) (fun j o e => by rw [List.getElem?_drop, Array.getElem?_toList] at e; exact e) h hc (lops_nil hq) hs
  rw [List.append_nil, List.length_drop, Array.length_toList] at this
  exact this⟩

theorem lwp_rangeG {F : Frm} {g : Operand} {ps : Array Tmp} {assign body : Code} {Q : Exit → St → Prop} {s : St} (h : ∀ ab bd, assign = ab → body = bd → LWP F (.rangeFunc g ps ab bd) Q s) : LWP F (.rangeFunc g ps assign body) Q s := h _ _ rfl rfl

theorem Sub.trans {F : Frm} {s t u : St} (h1 : Sub F s t) (h2 : Sub F t u) : Sub F s u := fun ρ a w h => let ⟨ρ1, h3⟩ := h1 ρ a w h; h2 ρ1 a w h3

/-- What is known is said otherwise: of the same world. -/
theorem holds_ghost {F : Frm} {T : List (Nat × AV)} {H : List (Nat × Chunk)} {nx : Nat} {ρ : Env} {a : Act} {w : World} (h : Holds F T H nx ρ a w) {ρ' : Env} {H' : List (Nat × Chunk)} {nx' : Nat} (hle : Env.le ρ ρ') (hkeep : ∀ i, i < F.m → ρ' i = ρ i) (hdom : ∀ i L, ρ' i = some L → i < nx')
    (hm : nx ≤ nx') (hh : ∀ i c, look i H' = some c → c.holds ρ' i w) (R : Nat → Nat → Prop) (hR : ∀ i i' i0, R i i0 → R i' i0 → i = i')
    (src : ∀ i c g, look i H' = some c → c.occ ρ' i g → ∃ i0 c0, R i i0 ∧ look i0 H = some c0 ∧ c0.occ ρ i0 g ∧ (c.own = true → c0.own = true)) : Holds F T H' nx' ρ' a w := by
  refine ⟨Nat.le_trans h.m hm, ⟨h.I.size, h.I.defers, fun k av e => ?_, ⟨hh, fun i c e ho j d e' hne g hg hg' => ?_⟩, hdom, fun i hi => (hkeep i hi).trans (h.I.keep i hi), fun g hg => ?_, h.I.touch⟩⟩
  · obtain ⟨v, h1, h2⟩ := h.I.tm k av e
    exact ⟨v, AV.den_mono hle _ _ h1, h2⟩
  · obtain ⟨i0, c0, r1, e1, o1, w1⟩ := src i c g e hg
    obtain ⟨j0, d0, r2, e2, o2, w2⟩ := src j d g e' hg'
    refine h.I.heap.apart i0 c0 e1 (w1 ho) j0 d0 e2 (fun q => hne ?_) g o1 o2
    subst q
    exact (hR _ _ _ r1 r2).symm
  · obtain ⟨i, c, e, ho, hg⟩ := hg
    obtain ⟨i0, c0, r1, e1, o1, w1⟩ := src i c g e hg
    exact h.I.fresh g ⟨i0, c0, e1, w1 ho, o1⟩

theorem free_nx {F : Frm} {T : List (Nat × AV)} {H : List (Nat × Chunk)} {nx : Nat} {ρ : Env} {a : Act} {w : World} (h : Holds F T H nx ρ a w) : ρ nx = none := by
  cases e : ρ nx with
  | none => rfl
  | some L => have := h.I.dom nx L e; (try dsimp only at this); omega
theorem look_lt {F : Frm} {T : List (Nat × AV)} {H : List (Nat × Chunk)} {nx : Nat} {ρ : Env} {a : Act} {w : World} (h : Holds F T H nx ρ a w) {i : Nat} {c : Chunk} (e : look i H = some c) : i < nx := by
  have hh := h.I.heap.holds i c e
  have : ∃ L, ρ i = some L := by
    cases c with
    | blk t l => obtain ⟨g, cap, vs, e, _⟩ := hh; exact ⟨_, e⟩
    | rb t l => obtain ⟨g, cap, vs, e, _⟩ := hh; exact ⟨_, e⟩
    | row t n sz c => obtain ⟨L, vs, e, _⟩ := hh; exact ⟨_, e⟩
    | ro n sz c => obtain ⟨L, vs, e, _⟩ := hh; exact ⟨_, e⟩
    | obj k => obtain ⟨b, cap, vs, e, _⟩ := hh; exact ⟨_, e⟩
    | fam => obtain ⟨L, e, _⟩ := hh; exact ⟨_, e⟩
  obtain ⟨L, e⟩ := this
  exact h.I.dom i L e

theorem RowAt.of_own {w : World} {A : Option Addr} {C m sz : Nat} {te : TypeId} {ck : Cont} {vs : List Value} (h : w.ownsRow 0 te sz (.slice A m C) m vs) (hd : ∀ ρ, AV.denL ρ ck.cells = some vs) (o : Bool) : RowAt w (A, C) o te sz m ck := by
  refine ⟨vs, hd, h.1, ?_, ?_, fun h0 => ?_, fun _ _ => h⟩
  · rcases h.2 with ⟨e1, e2⟩ | ⟨g, cap, cur, e1, _, _, e2, _⟩
    · injection e1 with _ e1 e3; omega
    · injection e1 with _ _ e1; show m ≤ C; omega
  · rcases h.2 with ⟨e1, e2⟩ | ⟨g, cap, cur, e1, _, _, _, e2, _⟩
    · injection e1 with _ e1 e3; show C ≤ _; rw [e3]; exact Nat.zero_le _
    · injection e1 with _ _ e1; show C ≤ _; omega
  · rcases h.2 with ⟨e1, e2⟩ | ⟨g, cap, cur, e1, _⟩
    · rw [e2] at h0; simp at h0
    · injection e1 with e1 _ _
      exact ⟨_, e1, h.cells (g := g) (by rw [e1]; rfl)⟩

theorem denL_map {ρ ρ' : Env} {f f' : Nat → AV} : ∀ {l : List Nat} {vs : List Value}, (∀ q ∈ l, ∀ v, (f q).den ρ = some v → (f' q).den ρ' = some v) → AV.denL ρ (l.map f) = some vs → AV.denL ρ' (l.map f') = some vs
  | [], vs, _, h => by simpa [AV.denL] using h
  | q :: l, vs, hq, h => by
    simp only [List.map_cons, AV.denL] at h ⊢
    obtain ⟨u, us, h1, h2, rfl⟩ := listO_some h
    rw [hq q List.mem_cons_self u h1, denL_map (fun q hm => hq q (List.mem_cons_of_mem _ hm)) h2]
    rfl

/-- A family of no rows. -/
theorem fam0_sub {F : Frm} {T : List (Nat × AV)} {H : List (Nat × Chunk)} {nx : Nat} (o : Bool) (te : TypeId) (sz : Nat) (len : Nat → Nat) (c : Nat → Cont) (hs : 0 < sz) : Sub F ⟨T, H, nx⟩ ⟨T, (nx, .fam o te sz 0 len c) :: H, nx + 1⟩ := by
  intro ρ a w h
  change Holds F T H nx ρ a w at h
  show ∃ ρ', Holds F T _ (nx + 1) ρ' a w
  have hn := free_nx h
  have hle := envSet_le (L := ⟨none, locsN []⟩) hn
  refine ⟨_, holds_ghost h hle (fun i hi => envSet_other _ _ (by have := h.m; (try dsimp only at *); omega)) (fun i L e => ?_) (Nat.le_succ _) (fun i d e => ?_) (fun i i0 => i = i0) (fun i i' i0 h1 h2 => h1.trans h2.symm) (fun i d g e hg => ?_)⟩
  · by_cases hi : i = nx
    · omega
    · rw [envSet_other _ _ hi] at e
      have := h.I.dom i L e
      (try dsimp only at *); omega
  · rw [look_cons] at e
    split at e
    · rename_i hi
      cases e
      subst hi
      exact ⟨_, envSet_same _ _ _, hs, by rw [locs_N]; rfl, fun e r er => (by rw [locs_N] at er; cases er), fun _ e e' r r' a a' er => (by rw [locs_N] at er; cases er)⟩
    · exact Chunk.holds_mono hle (h.I.heap.holds i d e)
  · rw [look_cons] at e
    split at e
    · rename_i hi
      cases e
      subst hi
      obtain ⟨L, e1, q, r, a', e2, _⟩ := hg
      rw [envSet_same] at e1
      cases e1
      rw [locs_N] at e2
      cases e2
    · exact ⟨i, d, rfl, e, Chunk.occ_mono hle (h.I.heap.holds i d e) hg, id⟩

/-- A slice of nothing but nil slices is a table. -/
theorem made_sub {F : Frm} {T : List (Nat × AV)} {H : List (Nat × Chunk)} {nx i n : Nat} {t : TypeId} {c0 : Cont} (o : Bool) (te : TypeId) (sz : Nat) (c : Nat → Cont) (hs : 0 < sz) (hcc : ∀ q, (c q).cells = []) (hi : look i H = some (.row t n 1 c0)) (hc : c0.cells = (List.range n).map fun _ => .lit (.slice none 0 0)) :
    Sub F ⟨T, H, nx⟩ ⟨T, (nx, .fam o te sz n (fun _ => 0) c) :: (i, .row t n 1 (.tbl nx n (fun _ => 0) none)) :: delA i H, nx + 1⟩ := by
  intro ρ a w h
  change Holds F T H nx ρ a w at h
  show ∃ ρ', Holds F T _ (nx + 1) ρ' a w
  have hn := free_nx h
  have hil := look_lt h hi
  obtain ⟨S, hS⟩ : ∃ S : List (Option Addr × Nat), S = (List.range n).map fun _ => (none, 0) := ⟨_, rfl⟩
  have hle := envSet_le (L := ⟨none, locsN S⟩) hn
  have hSr : ∀ {q : Nat} {r : Option Addr × Nat}, S[q]? = some r → r = (none, 0) := fun {q r} e => by
    rw [hS, List.getElem?_map] at e
    cases hq : (List.range n)[q]? with
    | none => rw [hq] at e; cases e
    | some x => rw [hq] at e; cases e; rfl
  have hd : ∀ {x : Nat} {d : Chunk}, x ≠ nx → x ≠ i → look x ((nx, Chunk.fam o te sz n (fun _ => 0) c) :: (i, .row t n 1 (.tbl nx n (fun _ => 0) none)) :: delA i H) = some d → look x H = some d := fun {x d} h1 h2 e => by
    rw [look_cons, if_neg h1, look_cons, if_neg h2, look_delA, if_neg h2] at e
    exact e
  refine ⟨_, holds_ghost h hle (fun x hx => envSet_other _ _ (by have := h.m; (try dsimp only at *); omega)) (fun x L e => ?_) (Nat.le_succ _) (fun x d e => ?_) (fun x x0 => x = x0) (fun i i' i0 h1 h2 => h1.trans h2.symm) (fun x d g e hg => ?_)⟩
  · by_cases hx : x = nx
    · omega
    · rw [envSet_other _ _ hx] at e
      have := h.I.dom x L e
      (try dsimp only at *); omega
  · by_cases hx : x = nx
    · subst hx
      rw [look_cons, if_pos rfl] at e
      cases e
      refine ⟨_, envSet_same _ _ _, hs, by rw [locs_N, hS]; simp, fun e r er => ?_, fun _ e e' r r' a a' er _ ha => ?_⟩
      · rw [locs_N] at er
        rw [hSr er]
        exact RowAt.of_own (World.ownsRow_nil w 0 te sz) (fun ρ => by rw [hcc]; rfl) o
      · rw [locs_N] at er
        rw [hSr er] at ha
        cases ha
    · by_cases hx2 : x = i
      · subst hx2
        rw [look_cons, if_neg hx, look_cons, if_pos rfl] at e
        cases e
        obtain ⟨L, vs, e1, e2, e3⟩ := h.I.heap.holds x _ hi
        refine ⟨L, vs, hle _ _ e1, ?_, e3⟩
        rw [hc] at e2
        refine denL_map (fun q hq v hv => ?_) e2
        simp only [AV.den, Option.some.injEq] at hv
        subst hv
        have hq' := List.mem_range.1 hq
        simp [tblC, AV.den, envSet_same, Tb.den, locs_N, hS, hq']
      · exact Chunk.holds_mono hle (h.I.heap.holds x d (hd hx hx2 e))
  · by_cases hx : x = nx
    · subst hx
      rw [look_cons, if_pos rfl] at e
      cases e
      obtain ⟨L, e1, q, r, a', e2, e3, _⟩ := hg
      rw [envSet_same] at e1
      cases e1
      rw [locs_N] at e2
      rw [hSr e2] at e3
      cases e3
    · by_cases hx2 : x = i
      · subst hx2
        rw [look_cons, if_neg hx, look_cons, if_pos rfl] at e
        cases e
        obtain ⟨L, a', e1, e2⟩ := hg
        rw [envSet_other _ _ hx] at e1
        exact ⟨x, _, rfl, hi, ⟨L, a', e1, e2⟩, fun _ => rfl⟩
      · have e' := hd hx hx2 e
        exact ⟨x, d, rfl, e', Chunk.occ_mono hle (h.I.heap.holds x d e') hg, id⟩

/-- A row of its own is put into a family, as element e of a table. -/
theorem put_ghost {F : Frm} {T : List (Nat × AV)} {H : List (Nat × Chunk)} {nx i j k e n n' m sz : Nat} {o : Bool} {t te : TypeId} {len : Nat → Nat} {c : Nat → Cont} {c0 ck : Cont}
    (hi : look i H = some (.row t n' 1 c0)) (hj : look j H = some (.fam o te sz n len c)) (hk : look k H = some (.row te m sz ck))
    (hc : c0.cells = (List.range n').map fun q => if q = e then .sl k m else .tb j (.row q (len q))) (he : e < n') (hn : ∀ q, q < n' → q ≠ e → q < n) (hl : litC ck = true) :
    ∀ ρ a w, Holds F T H nx ρ a w → ∃ ρ', Holds F T ((nx, .fam o te sz n' (fun q => if q = e then m else len q) (fun q => if q = e then ck else c q)) :: (i, .row t n' 1 (.tbl nx n' (fun q => if q = e then m else len q) none)) :: delA k (delA j (delA i H))) (nx + 1) ρ' a w ∧ ∀ v, AV.den ρ (.sl k m) = some v → AV.den ρ' (.tb nx (.row e m)) = some v := by
  intro ρ a w h
  have hnx := free_nx h
  have hil := look_lt h hi
  have hjl := look_lt h hj
  have hkl := look_lt h hk
  have hij : i ≠ j := fun q => by subst q; rw [hi] at hj; cases hj
  have hjk : j ≠ k := fun q => by subst q; rw [hj] at hk; cases hk
  have hik : i ≠ k := by
    intro q
    subst q
    rw [hi] at hk
    cases hk
    obtain ⟨v, h0⟩ : ∃ v, (Cont.cells c0)[e]? = some (.sl i v) := ⟨_, by rw [hc]; simp [he]; rfl⟩
    obtain ⟨us, hu⟩ := litC_den hl
    rw [hu, List.getElem?_map] at h0
    cases hq : us[e]? with
    | none => rw [hq] at h0; cases h0
    | some x => rw [hq] at h0; cases h0
  obtain ⟨L, eL, f1, f2, f3, f4⟩ := h.I.heap.holds j _ hj
  obtain ⟨Lk, vk, ek, dk, ownk⟩ := h.I.heap.holds k _ hk
  have hall : ∀ ρ' : Env, AV.denL ρ' ck.cells = some vk := by
    obtain ⟨us, hu⟩ := litC_den hl
    intro ρ'
    rw [hu, denL_lits] at dk ⊢
    exact dk
  obtain ⟨S, hS⟩ : ∃ S : List (Option Addr × Nat), S = (List.range n').map fun q => if q = e then (Lk.ad, Lk.cap) else (locs L.cap).getD q (none, 0) := ⟨_, rfl⟩
  have hSl : S.length = n' := by rw [hS]; simp
  have hSe : S[e]? = some (Lk.ad, Lk.cap) := by rw [hS]; simp [he]
  have hSq : ∀ {q : Nat}, q < n' → q ≠ e → S[q]? = (locs L.cap)[q]? := fun {q} h1 h2 => by
    have h3 : q < (locs L.cap).length := by rw [f2]; exact hn q h1 h2
    rw [hS]
    simp [h1, h2, List.getElem?_eq_getElem h3, List.getD]
  have hSlt : ∀ {q : Nat} {r : Option Addr × Nat}, S[q]? = some r → q < n' := fun {q r} e => by rw [← hSl]; exact (List.getElem?_eq_some_iff.1 e).1
  have hle := envSet_le (L := ⟨none, locsN S⟩) hnx
  obtain ⟨H2, hH2⟩ : ∃ H2, H2 = (nx, Chunk.fam o te sz n' (fun q => if q = e then m else len q) (fun q => if q = e then ck else c q)) :: (i, .row t n' 1 (.tbl nx n' (fun q => if q = e then m else len q) none)) :: delA k (delA j (delA i H)) := ⟨_, rfl⟩
  have hd : ∀ {x : Nat} {d : Chunk}, x ≠ nx → x ≠ i → look x H2 = some d → x ≠ j ∧ x ≠ k ∧ look x H = some d := fun {x d} h1 h2 e => by
    rw [hH2, look_cons, if_neg h1, look_cons, if_neg h2, look_delA] at e
    by_cases h3 : x = k
    · rw [if_pos h3] at e; cases e
    · rw [if_neg h3, look_delA] at e
      by_cases h4 : x = j
      · rw [if_pos h4] at e; cases e
      · rw [if_neg h4, look_delA, if_neg h2] at e
        exact ⟨h4, h3, e⟩
  have hnxd : ∀ {d : Chunk}, look nx H2 = some d → d = Chunk.fam o te sz n' (fun q => if q = e then m else len q) (fun q => if q = e then ck else c q) := fun {d} e => by
    rw [hH2, look_cons, if_pos rfl] at e
    exact (Option.some.inj e).symm
  have hid : ∀ {d : Chunk}, look i H2 = some d → d = .row t n' 1 (.tbl nx n' (fun q => if q = e then m else len q) none) := fun {d} e => by
    rw [hH2, look_cons, if_neg (by omega), look_cons, if_pos rfl] at e
    exact (Option.some.inj e).symm
  rw [← hH2]
  refine ⟨envSet ρ nx ⟨none, locsN S⟩, holds_ghost h hle (fun x hx => envSet_other _ _ (by have := h.m; (try dsimp only at *); omega)) (fun x L e => ?_) (Nat.le_succ _) (fun x d ex => ?_)
    (fun y y0 => (y ≠ nx ∧ y ≠ j ∧ y ≠ k ∧ y0 = y) ∨ (y = nx ∧ (y0 = j ∨ y0 = k))) (fun y y' y0 h1 h2 => ?_) (fun x d g ex hg => ?_), fun v hv => ?_⟩
  · by_cases hx : x = nx
    · omega
    · rw [envSet_other _ _ hx] at e
      have := h.I.dom x L e
      (try dsimp only at *); omega
  · by_cases hx : x = nx
    · subst hx
      rw [hnxd ex]
      refine ⟨_, envSet_same _ _ _, f1, by rw [locs_N]; exact hSl, fun q r er => ?_, fun ho q q' r r' b b' er er' hb hb' hne p p' => ?_⟩
      · rw [locs_N] at er
        dsimp only
        by_cases hq : q = e
        · subst hq
          rw [hSe] at er
          cases er
          rw [if_pos rfl, if_pos rfl]
          exact RowAt.of_own ownk hall o
        · rw [if_neg hq, if_neg hq]
          rw [hSq (hSlt er) hq] at er
          exact f3 q r er
      · rw [locs_N] at er er'
        subst ho
        dsimp only at p p'
        have hkocc : ∀ {b : Addr}, Lk.ad = some b → Chunk.occ ρ k b.block (.row te m sz ck) := fun {b} e => ⟨Lk, b, ek, e, rfl⟩
        have hap := h.I.heap.apart k _ hk rfl j _ hj hjk
        by_cases hq : q = e
        · subst hq
          have hq' : q' ≠ q := fun z => hne z.symm
          rw [hSe] at er; cases er
          rw [hSq (hSlt er') hq'] at er'
          rw [if_neg hq'] at p'
          intro hbb
          exact hap b.block (hkocc hb) ⟨L, eL, q', r', b', er', hb', hbb.symm, p'⟩
        · rw [hSq (hSlt er) hq] at er
          by_cases hq' : q' = e
          · subst hq'
            rw [hSe] at er'; cases er'
            rw [if_neg hq] at p
            intro hbb
            exact hap b'.block (hkocc hb') ⟨L, eL, q, r, b, er, hb, hbb, p⟩
          · rw [hSq (hSlt er') hq'] at er'
            rw [if_neg hq] at p
            rw [if_neg hq'] at p'
            exact f4 rfl q q' r r' b b' er er' hb hb' hne p p'
    · by_cases hx2 : x = i
      · subst hx2
        rw [hid ex]
        obtain ⟨L0, vs, e1, e2, e3⟩ := h.I.heap.holds x _ hi
        refine ⟨L0, vs, hle _ _ e1, ?_, e3⟩
        rw [hc] at e2
        refine denL_map (fun q hq v hv => ?_) e2
        have hq' := List.mem_range.1 hq
        by_cases hqe : q = e
        · subst hqe
          rw [if_pos rfl] at hv
          simp only [AV.den, ek, Option.map_some, Option.some.injEq] at hv
          subst hv
          simp [tblC, AV.den, envSet_same, Tb.den, locs_N, hSe]
        · rw [if_neg hqe] at hv
          simp only [AV.den, eL, Option.bind_some, Tb.den] at hv
          simp only [tblC, if_neg hqe, AV.den, envSet_same, Option.bind_some, Tb.den, locs_N, hSq hq' hqe]
          exact hv
      · obtain ⟨_, _, e'⟩ := hd hx hx2 ex
        exact Chunk.holds_mono hle (h.I.heap.holds x d e')
  · rcases h1 with ⟨a1, a2, a3, a4⟩ | ⟨a1, a2⟩ <;> rcases h2 with ⟨b1, b2, b3, b4⟩ | ⟨b1, b2⟩ <;> omega
  · by_cases hx : x = nx
    · subst hx
      rw [hnxd ex] at hg ⊢
      obtain ⟨L1, e1, q, r, b, er, hb, rfl, ho⟩ := hg
      rw [envSet_same] at e1
      cases e1
      rw [locs_N] at er
      by_cases hq : q = e
      · subst hq
        rw [hSe] at er
        cases er
        exact ⟨k, _, .inr ⟨rfl, .inr rfl⟩, hk, ⟨Lk, b, ek, hb, rfl⟩, fun _ => rfl⟩
      · rw [hSq (hSlt er) hq] at er
        dsimp only at ho
        rw [if_neg hq] at ho
        exact ⟨j, _, .inr ⟨rfl, .inl rfl⟩, hj, ⟨L, eL, q, r, b, er, hb, rfl, ho⟩, id⟩
    · by_cases hx2 : x = i
      · subst hx2
        rw [hid ex] at hg ⊢
        obtain ⟨L0, a', e1, e2⟩ := hg
        rw [envSet_other _ _ hx] at e1
        exact ⟨x, _, .inl ⟨hx, hij, hik, rfl⟩, hi, ⟨L0, a', e1, e2⟩, fun _ => rfl⟩
      · obtain ⟨g1, g2, e'⟩ := hd hx hx2 ex
        exact ⟨x, d, .inl ⟨hx, g1, g2, rfl⟩, e', Chunk.occ_mono hle (h.I.heap.holds x d e') hg, id⟩
  · simp only [AV.den, ek, Option.map_some] at hv
    simp only [AV.den, envSet_same, Option.bind_some, Tb.den, locs_N, hSe]
    exact hv
theorem put_sub {F : Frm} {T : List (Nat × AV)} {H : List (Nat × Chunk)} {nx i j k e n n' m sz : Nat} {o : Bool} {t te : TypeId} {len : Nat → Nat} {c : Nat → Cont} {c0 ck : Cont}
    (hi : look i H = some (.row t n' 1 c0)) (hj : look j H = some (.fam o te sz n len c)) (hk : look k H = some (.row te m sz ck))
    (hc : c0.cells = (List.range n').map fun q => if q = e then .sl k m else .tb j (.row q (len q))) (he : e < n') (hn : ∀ q, q < n' → q ≠ e → q < n) (hl : litC ck = true) :
    Sub F ⟨T, H, nx⟩ ⟨T, (nx, .fam o te sz n' (fun q => if q = e then m else len q) (fun q => if q = e then ck else c q)) :: (i, .row t n' 1 (.tbl nx n' (fun q => if q = e then m else len q) none)) :: delA k (delA j (delA i H)), nx + 1⟩ := fun ρ a w h =>
  let ⟨ρ', h1, _⟩ := put_ghost hi hj hk hc he hn hl ρ a w h
  ⟨ρ', h1⟩
/-- The row goes on being read, by another name. -/
theorem put_subT {F : Frm} {T : List (Nat × AV)} {H : List (Nat × Chunk)} {nx i j k e n n' m sz : Nat} {o : Bool} {t te : TypeId} {len : Nat → Nat} {c : Nat → Cont} {c0 ck : Cont} {x0 : Nat} (hx : look x0 T = some (.sl k m))
    (hi : look i H = some (.row t n' 1 c0)) (hj : look j H = some (.fam o te sz n len c)) (hk : look k H = some (.row te m sz ck))
    (hc : c0.cells = (List.range n').map fun q => if q = e then .sl k m else .tb j (.row q (len q))) (he : e < n') (hn : ∀ q, q < n' → q ≠ e → q < n) (hl : litC ck = true) :
    Sub F ⟨T, H, nx⟩ ⟨(x0, .tb nx (.row e m)) :: T, (nx, .fam o te sz n' (fun q => if q = e then m else len q) (fun q => if q = e then ck else c q)) :: (i, .row t n' 1 (.tbl nx n' (fun q => if q = e then m else len q) none)) :: delA k (delA j (delA i H)), nx + 1⟩ := fun ρ a w h => by
  obtain ⟨ρ', h1, h2⟩ := put_ghost hi hj hk hc he hn hl ρ a w h
  refine ⟨ρ', h1.m, ⟨h1.I.size, h1.I.defers, fun y av ey => ?_, h1.I.heap, h1.I.dom, h1.I.keep, h1.I.fresh, h1.I.touch⟩⟩
  dsimp only at ey
  rw [look_cons] at ey
  by_cases hy : y = x0
  · rw [if_pos hy] at ey
    cases ey
    obtain ⟨v, g1, g2⟩ := Interp.tm (Holds.I h) x0 _ hx
    subst hy
    exact ⟨v, h2 v g1, g2⟩
  · rw [if_neg hy] at ey
    exact h1.I.tm y av ey

/-! The steps on alone, one name for all; what a branch knows. -/
class Stp (p : Prop) (q : outParam Prop) : Prop where
  h : q → p
section stp
variable {F : Frm} {Q : Exit → St → Prop} {s : St} {K : St → Prop} {id l : Nat} {c : Code}
instance : Stp (thenS K Q (.exit id) s) (Q (.exit id) s) := ⟨gB⟩
instance : Stp (thenS K Q .ret s) (Q .ret s) := ⟨gC⟩
instance : Stp (inBlockS id Q .normal s) (Q .normal s) := ⟨gD⟩
instance : Stp (inBlockS id Q .ret s) (Q .ret s) := ⟨gE⟩
instance : Stp (LWP F (.block id c) Q s) (LWP F c (inBlockS id Q) s) := ⟨gH⟩
instance : Stp (LWP F .skip Q s) (Q .normal s) := ⟨gI⟩
instance : Stp (LWP F (.exit id) Q s) (Q (.exit id) s) := ⟨gJ⟩
instance : Stp (LWP F .ret Q s) (Q .ret s) := ⟨gK⟩
instance : Stp (LWP F (.label l) Q s) (Q .normal s) := ⟨gL⟩
end stp
class Says (b : Bool) (p q : outParam Prop) : Prop where
  t : b = true → p
  f : b = false → q
instance (priority := low) saysB (b : Bool) : Says b (b = true) (b = false) := ⟨fun h => h, fun h => h⟩
instance saysD (p : Prop) [Decidable p] : Says (decide p) p (¬ p) := ⟨of_decide_eq_true, of_decide_eq_false⟩
instance (priority := high) saysE (p : Prop) [Decidable (¬ p)] : Says (decide (¬ p)) (¬ p) p := ⟨of_decide_eq_true, fun h => Classical.byContradiction (of_decide_eq_false h)⟩
instance saysN (b : Bool) {p q : Prop} [h : Says b p q] : Says (!b) q p := ⟨fun e => h.f (by simpa using e), fun e => h.t (by simpa using e)⟩
theorem lwp_condS {F : Frm} {cfg : Cfg} (hC : CfgOk F cfg) {c : Operand} {x y : Code} {T : List (Nat × AV)} {H : List (Nat × Chunk)} {nx : Nat} {b : Bool} {cs : List Cd} {Q : Exit → St → Prop} {p q : Prop} [hs : Says b p q] (he : ev cfg T [] c = some (.lit (.bool b), cs)) (hcs : All cs) (ht : p → LWP F x Q ⟨T, H, nx⟩) (hf : q → LWP F y Q ⟨T, H, nx⟩) : LWP F (.cond c x y) Q ⟨T, H, nx⟩ :=
  lwp_cond hC he hcs (fun e => ht (hs.t e)) (fun e => hf (hs.f e))
/-- A way out that many places share: it is shown once. -/
theorem lwp_early {F : Frm} {x y : Code} {Q : Exit → St → Prop} {s t : St} (hy : LWP F y Q t) (hx : ∀ K, (∀ s', LWP F y Q s' → K s') → (∀ s', Sub F s' t → K s') → LWP F x (thenS K Q) s) : LWP F (.seq x y) Q s :=
  lwp_seq fun K hK => hx K hK fun s' h => hK s' (lwp_sub h hy)

/-- The ways through a statement meet behind it. -/
theorem lwp_cut {F : Frm} {x y : Code} {Q : Exit → St → Prop} {s t : St} (h1 : LWP F x (thenS (fun s' => Sub F s' t) Q) s) (h2 : LWP F y Q t) : LWP F (.seq x y) Q s :=
  lwp_seq fun K hK => lwp_mono h1 fun e s' h => by
    cases e with
    | normal => exact hK s' (lwp_sub h h2)
    | _ => exact h

end Go.Sym
