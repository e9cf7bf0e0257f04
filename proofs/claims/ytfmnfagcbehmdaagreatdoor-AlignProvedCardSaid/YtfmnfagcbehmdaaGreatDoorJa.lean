/- Chapter 5: the pairs of a ride: the walk over a map of slices. -/
import Derived.Test.YtfmnfagcbehmdaaGreatDoorDf
import Derived.Maps.OwnRows
import Derived.Maps.GroupsBeside
import Derived.Maps.Views
import Derived.StringKeys
set_option linter.unusedVariables false
set_option linter.unusedSimpArgs false
namespace Go
open Go.Maps Go.RowKit

theorem step_lookup_groups {H : Type} {P : Program} {ops : Array Oper} {o : Oper} {a : Act} {w : World} {K : Act → World → Prop} {Q : Exit → Act → World → Prop} {E0 : Prop} (hgd : o.guard = none) (m x : Operand) (t : TypeId) (hop : o.op = Op.lookup t m x false)
    (k E e : TypeId) (q : IntKind) (hK' : Keyed P k) (ht : P.underlying t = some (.map k E)) (hz : (zeroValue E).run P w = .ok (.slice none 0 0) w) (base b n : Nat) (D : DataW H)
    (hm : a.eval m = .map (some b)) (hown : w.ownsGroups P k base e q b n D) (hn : n < maxLen) (key : Value) (kl : Lit) (hx : a.eval x = key) (hkey : keyOf P k key = some kl)
    (hK : ∀ v zs, D.atKey kl .nil = rowDatum q v zs → w.ownsInts base e q v zs → zs.length ≤ n → w.groupBack P t k base e q b n D key kl v → K (a.put o.dst v) w) :
    if Region.wanted o (yielded ops a.tmps) = true then Oper.wp P o a w K Q else E0 := by
  have hw : Region.wanted o (yielded ops a.tmps) = true := by simp [Region.wanted, hgd]
  rw [if_pos hw]
  obtain ⟨v, zs, hrun, hat, hoi, hzl, hback⟩ := hown.at hK' ht hz hn hkey
  unfold Oper.wp
  simp [execOp, hop, hm, hx, hrun, Result.andThen]
  exact hK v zs hat hoi hzl hback

theorem step_append_own_at {P : Program} {ops : Array Oper} {o : Oper} {a : Act} {w : World} {K : Act → World → Prop} {Q : Exit → Act → World → Prop} {E0 : Prop} (hgd : o.guard = none) (s x : Operand) (t : TypeId)
    (ho : o.op = .call { callee := .builtin .append, args := #[s, x], argTypes := #[t, t] })
    (base : Nat) (e : TypeId) (i : TypeInfo) (z : Value) (size bytes : Nat) (ht : P.underlying t = some (.slice e)) (hi : P.info? e = some i) (hz : i.zero = some z)
    (hsize : i.size = size) (hby : i.bytes = bytes) (hzs : z.cells.size = size) (hsz : 0 < size)
    (v : Value) (n : Nat) (xs : List Value) (hs : a.eval s = v) (hown : w.ownsRow base e size v n xs)
    (ad : Addr) (m c : Nat) (news : List Value) (hx : a.eval x = .slice (some ad) m c) (hl : news.length = m * size) (hnews : ∀ j u, news[j]? = some u → w.cell? (ad.add j) = some u) (h1 : ∀ u ∈ news, u.oneCell' = true)
    (h63 : n + m ≤ maxLen) (hbytes : (n + m) * bytes ≤ 140737488355328) (hbase : base ≤ w.heap.size)
    (h : ∀ v' w', w'.ownsRow base e size v' (n + m) (xs ++ news) → w.grownBy w' v.ownBlock → (v' = .slice none 0 0 ↔ v = .slice none 0 0 ∧ m = 0) → (v'.ownBlock = v.ownBlock ∨ v'.ownBlock = some w.heap.size) → K (a.put o.dst v') w') :
    if Region.wanted o (yielded ops a.tmps) = true then Oper.wp P o a w K Q else E0 := by
  have hw : Region.wanted o (yielded ops a.tmps) = true := by simp [Region.wanted, hgd]
  rw [if_pos hw]
  obtain ⟨v', w', hr, h2, h3, h4, h5⟩ := run_append_own_at (P := P) w base t o.type e i z size bytes ht hi hz hsize hby hzs hsz v n xs hown ad m c news hl hnews h1 h63 hbytes hbase
  unfold Oper.wp execOp
  simp only [ho, resolve, invoke, builtin, Sem.run_bind, Sem.run_pure, Result.andThen_ok, List.map_toArray, List.map_cons, List.map_nil, hs, hx, hr]
  exact h v' w' h2 h3 h4 h5

theorem step_mapUpdate_back {H : Type} {P : Program} {ops : Array Oper} {o : Oper} {a : Act} {w : World} {K : Act → World → Prop} {Q : Exit → Act → World → Prop} {E0 : Prop}
    (hgd : o.guard = none) (m x v : Operand) (t : TypeId) (hop : o.op = Op.mapUpdate t m x v)
    {w0 : World} {k : TypeId} {base : Nat} {e : TypeId} {q : IntKind} {b n : Nat} {D : DataW H} {key : Value} {kl : Lit} {u v' : Value} {zs' : List Int}
    (hback : w0.groupBack P t k base e q b n D key kl u) (hm : a.eval m = .map (some b)) (hx : a.eval x = key) (hv : a.eval v = v')
    (hgr : w0.grownBy w u.ownBlock) (hown' : w.ownsInts base e q v' zs') (hl' : zs'.length ≤ n + 1) (hloc : v'.ownBlock = u.ownBlock ∨ ∃ g, v'.ownBlock = some g ∧ w0.heap.size ≤ g)
    (hK : ∀ w2, w2.ownsGroups P k base e q b (n + 1) (D.put kl (rowDatum q v' zs')) → w.grownBy w2 (some b) → K (a.put o.dst undef) w2) :
    if Region.wanted o (yielded ops a.tmps) = true then Oper.wp P o a w K Q else E0 := by
  have hw : Region.wanted o (yielded ops a.tmps) = true := by simp [Region.wanted, hgd]
  rw [if_pos hw]
  obtain ⟨w2, hrun, r1, r2⟩ := hback w v' zs' hgr hown' hl' hloc
  unfold Oper.wp
  simp [execOp, hop, hm, hx, hv, hrun, Result.andThen]
  exact hK w2 r1 r2

theorem own_off {w : World} {base : Nat} {e t : TypeId} {q : IntKind} {v : Value} {zs : List Int} {g : Nat} {cs : Array Value} {f : Nat × Nat} (h : w.ownsInts base e q v zs) (hg : w.heap[g]? = some (.cells cs t f)) (ht : t ≠ e) : some g ≠ v.ownBlock := by
  rcases h.1.2 with ⟨rfl, _⟩ | ⟨r, cap, cur, rfl, _, hh, _⟩
  · simp [Value.ownBlock]
  · intro e1
    simp only [Value.ownBlock, Option.some.injEq] at e1
    subst e1
    rw [hg] at hh
    injection hh with hh
    injection hh with _ e2
    exact ht e2

theorem grown_kept {w w' : World} {row : Option Nat} {g : Nat} {o : Obj} {v : Value} (hg : w.grownBy w' row) (hne : some g ≠ row) (h : w.heap[g]? = some o ∧ w.cell? ⟨g, 0, none⟩ = some v) : w'.heap[g]? = some o ∧ w'.cell? ⟨g, 0, none⟩ = some v := by
  have hb := hg.block g (Array.getElem?_eq_some_iff.1 h.1).1 hne
  exact ⟨hb.trans h.1, (World.cell?_of_block (a := ⟨g, 0, none⟩) hb).trans h.2⟩
theorem grown_drew (w : World) (row : Option Nat) : w.grownBy w.drew row := ⟨rfl, rfl, rfl, Nat.le_refl _, fun _ _ _ => rfl⟩
theorem groups_quiet {H : Type} {P : Program} {k : TypeId} {w w' : World} {base : Nat} {e : TypeId} {q : IntKind} {b n : Nat} {D : DataW H} (h : w.ownsGroups P k base e q b n D) (hg : w.grownBy w' none) : w'.ownsGroups P k base e q b n D :=
  h.kept hg (by simp) (fun _ _ _ x _ => by cases x.val.ownBlock <;> simp)
theorem groups_at_old {H : Type} {P : Program} {t k E : TypeId} {w w' : World} {base : Nat} {e : TypeId} {q : IntKind} {b n : Nat} {D : DataW H} {key : Value} {kl : Lit} (h : w.ownsGroups P k base e q b n D) (hg : w.grownBy w' none) (K : Keyed P k) (ht : P.underlying t = some (.map k E)) (hz : (zeroValue E).run P w' = .ok (.slice none 0 0) w') (hkey : keyOf P k key = some kl) :
    ∃ v zs, (Instr.lookup t (.map (some b)) key false).run P w' = .ok v w' ∧ D.atKey kl .nil = rowDatum q v zs ∧ w.ownsInts base e q v zs := by
  obtain ⟨es, clock, hb, F, hs, rfl, hbb, hlen, hap⟩ := h
  have hb' := (hg.block b (Array.getElem?_eq_some_iff.1 hb).1 (by simp)).trans hb
  rcases Maps.fit_look false K ht hz hb' F hkey with ⟨hrun, _, hat⟩ | ⟨e0, y, hm0, h3, hrun, hR, hat, _⟩
  · exact ⟨.slice none 0 0, [], hrun, hat _, World.ownsInts_nil _ _ _ _⟩
  · obtain ⟨zs, ho, rfl⟩ := rowElem_inv hR
    exact ⟨e0.val, zs, hrun, hat _, ho⟩
theorem wpList_lookup_old {H : Type} {P : Program} (w : World) {ops : Array Oper} {rest : List Oper} {o : Oper} {a : Act} {Q : Exit → Act → World → Prop}
    (hgd : o.guard = none) (m x : Operand) (t : TypeId) (hop : o.op = Op.lookup t m x false) (w0 : World)
    (k E e : TypeId) (q : IntKind) (K : Keyed P k) (ht : P.underlying t = some (.map k E)) (hz : (zeroValue E).run P w = .ok (.slice none 0 0) w) (base b n : Nat) (D : DataW H)
    (hm : a.eval m = .map (some b)) (hown : w0.ownsGroups P k base e q b n D) (hg : w0.grownBy w none) (key : Value) (kl : Lit) (hx : a.eval x = key) (hkey : keyOf P k key = some kl)
    (hK : ∀ v zs, D.atKey kl .nil = rowDatum q v zs → w0.ownsInts base e q v zs → wpList P ops Q rest (a.put o.dst v) w) :
    wpList P ops Q (o :: rest) a w := by
  refine wpList_plain hgd fun K' hK' => ?_
  obtain ⟨v, zs, hrun, hat, hoi⟩ := groups_at_old hown hg K ht hz hkey
  unfold Oper.wp
  simp [execOp, hop, hm, hx, hrun, Result.andThen]
  exact hK' _ _ (hK v zs hat hoi)
theorem own_le {w : World} {b b' : Nat} {e : TypeId} {sz n : Nat} {v : Value} {xs : List Value} (h : w.ownsRow b e sz v n xs) (hb : b' ≤ b) : w.ownsRow b' e sz v n xs :=
  ⟨h.1, h.2.imp id fun ⟨g, cap, cur, e1, e2, r⟩ => ⟨g, cap, cur, e1, Nat.le_trans hb e2, r⟩⟩
theorem grown_below {w w' : World} (h : Below w.heap.size w w') : w.grownBy w' none := ⟨h.os, h.tape, h.output, h.size, fun k hk _ => h.block k hk⟩

end Go

namespace Go.Proofs.YtfmnfagcbehmdaaGreatDoor
open Go.RowKit Go.Sym Go.Maps

/-- The indices below k of the things of one kind. -/
def idxS (m : List Th) (c : ByteArray) (k : Nat) : List Int := ((List.range k).filter fun i => decide ((m.getD i thD).kind = c)).map Int.ofNat
theorem idxS_succ (m : List Th) (c : ByteArray) (k : Nat) : idxS m c (k + 1) = if (m.getD k thD).kind = c then idxS m c k ++ [(k : Int)] else idxS m c k := by
  unfold idxS
  rw [List.range_succ, List.filter_append, List.map_append]
  by_cases h : (m.getD k thD).kind = c
  · rw [if_pos h, List.filter_cons_of_pos (by simpa using h)]; rfl
  · rw [if_neg h, List.filter_cons_of_neg (by simpa using h)]; simp
theorem idxS_length (m : List Th) (c : ByteArray) (k : Nat) : (idxS m c k).length ≤ k := by
  unfold idxS
  rw [List.length_map]
  exact Nat.le_trans (List.length_filter_le _ _) (by simp)
theorem idxS_mem {m : List Th} {c : ByteArray} {k : Nat} {z : Int} (h : z ∈ idxS m c k) : 0 ≤ z ∧ z < k ∧ (thAt m z).kind = c := by
  unfold idxS at h
  obtain ⟨i, hi, rfl⟩ := List.mem_map.1 h
  obtain ⟨h1, h2⟩ := List.mem_filter.1 hi
  have := List.mem_range.1 h1
  exact ⟨by simp, by simpa using this, by simpa [thAt] using of_decide_eq_true h2⟩

def keyL (c : ByteArray) : Lit := .string c.data.toList
theorem keyL_inj {a b : ByteArray} (h : keyL a = keyL b) : a = b := by
  unfold keyL at h
  injection h with h
  cases a; cases b
  simp at h
  rw [h]
/-- What the map tells behind k rounds. -/
def AtI (D : DataW Unit) (m : List Th) (k : Nat) : Prop := IsMap D ∧ ∀ c, (D.atKey (keyL c) .nil = .nil ∧ idxS m c k = []) ∨ D.atKey (keyL c) .nil = .slice (Go.ChangeShapes.lits .i64 (idxS m c k)) []
theorem AtI_zero (m : List Th) : AtI (.map []) m 0 := ⟨⟨_, rfl⟩, fun c => .inl ⟨rfl, rfl⟩⟩
theorem lits_inj {a b : List Int} (h : Go.ChangeShapes.lits (H := Unit) .i64 a = Go.ChangeShapes.lits .i64 b) : a = b := by
  unfold Go.ChangeShapes.lits at h
  exact (List.map_inj_right (fun x y hxy => by simpa using hxy)).1 h
theorem AtI_at {D : DataW Unit} {m : List Th} {k : Nat} {w : World} {base : Nat} {e : TypeId} {v : Value} {zs : List Int} (h : AtI D m k) (c : ByteArray) (ho : w.ownsInts base e .i64 v zs) (hat : D.atKey (keyL c) .nil = rowDatum .i64 v zs) : zs = idxS m c k := by
  rcases ho.datum (H := Unit) with ⟨h1, rfl⟩ | h1 <;> rw [h1] at hat <;> rcases h.2 c with ⟨h2, h3⟩ | h2
  · exact h3.symm
  · rw [hat] at h2; cases h2
  · rw [hat] at h2; cases h2
  · rw [hat] at h2
    injection h2 with h2
    exact lits_inj h2
theorem AtI_step {D : DataW Unit} {m : List Th} {k : Nat} (h : AtI D m k) : AtI (D.put (keyL (m.getD k thD).kind) (.slice (Go.ChangeShapes.lits .i64 (idxS m (m.getD k thD).kind k ++ [(k : Int)])) [])) m (k + 1) := by
  refine ⟨?_, fun c => ?_⟩
  · obtain ⟨es, rfl⟩ := h.1
    exact ⟨_, rfl⟩
  · rw [idxS_succ]
    by_cases hc : (m.getD k thD).kind = c
    · subst hc
      rw [if_pos rfl]
      exact .inr (atKey_put_same h.1 (by simp [keyL, WideAt.IsKeyLit]) _ _)
    · rw [if_neg hc, atKey_put_other (fun e => hc (keyL_inj e).symm)]
      exact h.2 c

theorem flat2 : ∀ (l : List Th) (k : Nat), k < l.length → (l.flatMap thV)[k * 2]? = some (.string (l.getD k thD).kind) ∧ (l.flatMap thV)[k * 2 + 1]? = some (.int .i64 (l.getD k thD).place)
  | x :: l, 0, _ => by simp [thV]
  | x :: l, k + 1, h => by
    have := flat2 l k (by simpa using h)
    have e1 : (k + 1) * 2 = k * 2 + 2 := by omega
    rw [e1, show k * 2 + 2 + 1 = k * 2 + 1 + 2 by omega]
    simpa [thV, List.flatMap_cons] using this

/-- The pairs of the first n sights. -/
def rowP (m s : List Th) (j : Nat) : List (Int × Int) := (idxS m (s.getD j thD).kind m.length).map fun i => ((j : Int), i)
def toP (m s : List Th) : Nat → List (Int × Int)
  | 0 => []
  | n + 1 => toP m s n ++ rowP m s n
def allP (m s : List Th) : List (Int × Int) := toP m s s.length
theorem toP_length (m s : List Th) (n : Nat) : (toP m s n).length ≤ n * m.length := by
  induction n with
  | zero => simp [toP]
  | succ n ih =>
    have := idxS_length m (s.getD n thD).kind m.length
    simp only [toP, List.length_append, rowP, List.length_map]
    rw [Nat.succ_mul]
    omega

theorem mapStr : Keyed Tryz.prog 9 := string_keyed Tryz.underlying9
theorem zeroInts (w : World) : (zeroValue 45).run Tryz.prog w = .ok (.slice none 0 0) w := by kernel_rfl
theorem keyM {c : ByteArray} (h : c.size ≤ maxLen) : keyOf Tryz.prog 9 (.string c) = some (keyL c) := Go.WideMaps.keyOf_string_mk Tryz.underlying9 h
theorem infoPair : (Tryz.prog.info? 75).map (fun i => (i.zero, i.size, i.bytes)) = some (some (.agg #[.int .i64 0, .int .i64 0]), 2, 16) := by kernel_rfl

theorem infoIntJ : (Tryz.prog.info? 3).map (fun i => (i.zero, i.size, i.bytes)) = some (some (.int .i64 0), 1, 8) := by kernel_rfl

set_option maxRecDepth 100000 in
theorem pairs_c (m s : List Th) (A1 A2 : Option Addr) (c1 c2 : Nat) (w : World) (h1 : Rd w w.heap.size 2 (.slice A1 m.length c1) m.length (m.flatMap thV)) (h2 : Rd w w.heap.size 2 (.slice A2 s.length c2) s.length (s.flatMap thV))
    (hm : m.length ≤ 64) (hs : s.length ≤ 64) (hkm : ∀ k, (m.getD k thD).kind.size ≤ maxLen) (hks : ∀ k, (s.getD k thD).kind.size ≤ maxLen) :
    Calls Tryz.prog 81 #[.agg #[.slice A1 m.length c1, .slice A2 s.length c2]] w fun r w' => ∃ v, r = .returned v ∧ w'.ownsRow w.heap.size 75 2 v (allP m s).length ((allP m s).flatMap prV) ∧ Below w.heap.size w w' := by
  have hmm := @run_makeMap Tryz.prog
  obtain ⟨i0, hi, hz0, hz1, hz2⟩ := info_parts infoIntJ
  obtain ⟨i1, hj, hy0, hy1, hy2⟩ := info_parts infoPair
  have H1 := Lib.hid h1
  have H2 := Lib.hid h2
  clear h1 h2
  go_enter Tryz.func81, Tryz.ntmps81
  go_wp2
  go_loopw [15] (fun i wr => ∃ k : Nat, k ≤ m.length ∧ i = .int .i64 k ∧ (∃ D : DataW Unit, wr.ownsGroups Tryz.prog 9 (w.heap.size + 2) 3 .i64 (w.heap.size + 1) k D ∧ AtI D m k) ∧ Below (w.heap.size + 1) (w.alloc (.cells #[.slice A1 m.length c1, .slice A2 s.length c2] 38)) wr ∧ w.heap.size + 2 ≤ wr.heap.size) (fun i _ => m.length - (RowKit.intOf i).toNat)
  case atStart => exact ⟨0, Nat.zero_le _, rfl, ⟨.map [], by simpa using World.ownsGroups_made (w.alloc (.cells #[.slice A1 m.length c1, .slice A2 s.length c2] 38)) _ _ _ _, AtI_zero m⟩, (Below.refl _ _).alloc (by simp) _, by simp⟩
  case round =>
    obtain ⟨k, hk, rfl, ⟨D, hown, hAt⟩, hB, hws⟩ := hrel
    have hB0 : Below w.heap.size w wr := ((Below.refl _ w).alloc (Nat.le_refl _) _).trans (hB.mono (Nat.le_succ _))
    have hRd := H1.out.below hB0
    by_cases hlt : k < m.length
    · obtain ⟨ad, rfl, hbl, hcs⟩ := hRd.at_ (by omega)
      have hc0 := hcs (k * 2) _ (flat2 m k hlt).1
      have hc1 := hcs (k * 2 + 1) _ (flat2 m k hlt).2
      rw [← addr_add, show (1 : Nat) = 0 + 1 from rfl, addr_succ, Nat.zero_add] at hc1
      clear hcs
      obtain ⟨C, hC⟩ : ∃ C, (m.getD k thD).kind = C := ⟨_, rfl⟩
      obtain ⟨p, hp⟩ : ∃ p, (m.getD k thD).place = p := ⟨_, rfl⟩
      have hCk : C.size ≤ maxLen := hC ▸ hkm k
      rw [hC] at hc0
      rw [hp] at hc1
      have HC := Lib.hid hC
      clear hp hC
      go_wp2
      obtain ⟨W, hW⟩ : ∃ W, wr.alloc (.cells #[.string C, .int .i64 p] 144) = W := ⟨_, rfl⟩
      have hgW : wr.grownBy W none := hW ▸ World.grownBy_alloc _ _ _
      have hS : W.heap[wr.heap.size]? = some (.cells #[.string C, .int .i64 p] 144) ∧ W.cell? ⟨wr.heap.size, 0, none⟩ = some (.string C) := by subst hW; exact ⟨heap_alloc_new _ _, by simp⟩
      rw [hW]
      clear hW hc0 hc1
      have hgD := hgW.trans (grown_drew W none)
      have hownD := groups_quiet hown hgD
      have hBD : Below (w.heap.size + 1) (w.alloc (.cells #[.slice (some ad) m.length c1, .slice A2 s.length c2] 38)) W.drew := hB.grown hgD (by omega) (fun k hk => by cases hk)
      have hSD : W.drew.heap[wr.heap.size]? = some (.cells #[.string C, .int .i64 p] 144) ∧ W.drew.cell? ⟨wr.heap.size, 0, none⟩ = some (.string C) := hS
      have hsD : wr.heap.size ≤ W.drew.heap.size := hgD.size
      clear hS hgW hgD hown
      have HAt := Lib.hid hAt
      clear hAt
      refine wp_region_noPanic ?_
      refine wp_region_held_drew (S := fun w' => w'.heap[wr.heap.size]? = some (.cells #[.string C, .int .i64 p] 144) ∧ w'.cell? ⟨wr.heap.size, 0, none⟩ = some (.string C)) (by kernel_rfl) ?_ (fun hHeld => ?_)
      · first | exact rfl | ((try dsimp only); ((repeat' apply And.intro) <;> first | go_keep  | (repeat (first | with_reducible exact Below.refl _ _ | with_reducible assumption | with_reducible exact And.left (by assumption) | with_reducible exact And.left (And.right (by assumption)) | with_reducible refine Below.setCell ?_ (by dsimp only; omega) _ | with_reducible refine Below.allocE ?_ _ | with_reducible refine Below.drew ?_ | exact Below.refl _ _ | assumption | exact And.left (by assumption) | exact And.left (And.right (by assumption)) | refine Below.drew ?_ | refine Below.allocE ?_ _ | refine Below.setCell ?_ (by dsimp only; omega) _))))
      generalize W.drew = V at hownD hBD hSD hsD hHeld ⊢
      refine wpAnyH_take (i := 0) (oi := { dst := some 20, op := Op.move (Operand.tmp 3), type := 237, pos := _, after := #[], guard := none }) (v := ?_) rfl (by kernel_rfl) (by kernel_rfl) (by kernel_rfl) (fun _ _ _ h => h) (Or.inl ⟨by rfl, ?_⟩) (by assumption) ?_
      rotate_left 1
      · (intro w hSw; (try dsimp only at hSw); go_simp; (try with_reducible rfl))
      (try simp only [Act.put, List.setIfInBounds_toArray, List.set_cons_zero, List.set_cons_succ])
      refine wpAnyH_take (i := 1) (oi := { dst := some 21, op := Op.fieldAddr 144 (Operand.tmp 5) 0, type := 0, pos := _, after := #[], guard := none }) (v := ?_) rfl (by kernel_rfl) (by kernel_rfl) (by kernel_rfl) (fun _ _ _ h => h) (Or.inl ⟨by rfl, ?_⟩) (by assumption) ?_
      rotate_left 1
      · (intro w hSw; (try dsimp only at hSw); go_simp; (try with_reducible rfl))
      (try simp only [Act.put, List.setIfInBounds_toArray, List.set_cons_zero, List.set_cons_succ])
      refine wpAnyH_take (i := 2) (oi := { dst := some 22, op := Op.load 9 (Operand.tmp 21), type := 9, pos := _, after := #[{ on := 1, ground := Ground.data }], guard := none }) (v := ?_) rfl (by kernel_rfl) (by kernel_rfl) (by kernel_rfl) (fun _ _ _ h => h) (Or.inl ⟨by rfl, ?_⟩) (by assumption) ?_
      rotate_left 1
      · (intro w hSw; (try dsimp only at hSw); go_simp; (try with_reducible rfl))
      (try simp only [Act.put, List.setIfInBounds_toArray, List.set_cons_zero, List.set_cons_succ])
      refine wpAnyH_take (i := 3) (oi := { dst := some 23, op := Op.move (Operand.tmp 3), type := 237, pos := _, after := #[], guard := none }) (v := ?_) rfl (by kernel_rfl) (by kernel_rfl) (by kernel_rfl) (fun _ _ _ h => h) (Or.inl ⟨by rfl, ?_⟩) (by assumption) ?_
      rotate_left 1
      · (intro w hSw; (try dsimp only at hSw); go_simp; (try with_reducible rfl))
      (try simp only [Act.put, List.setIfInBounds_toArray, List.set_cons_zero, List.set_cons_succ])
      refine wpAnyH_take (i := 4) (oi := { dst := some 24, op := Op.fieldAddr 144 (Operand.tmp 5) 0, type := 0, pos := _, after := #[], guard := none }) (v := ?_) rfl (by kernel_rfl) (by kernel_rfl) (by kernel_rfl) (fun _ _ _ h => h) (Or.inl ⟨by rfl, ?_⟩) (by assumption) ?_
      rotate_left 1
      · (intro w hSw; (try dsimp only at hSw); go_simp; (try with_reducible rfl))
      (try simp only [Act.put, List.setIfInBounds_toArray, List.set_cons_zero, List.set_cons_succ])
      refine wpAnyH_take (i := 5) (oi := { dst := some 25, op := Op.load 9 (Operand.tmp 24), type := 9, pos := _, after := #[{ on := 4, ground := Ground.data }], guard := none }) (v := ?_) rfl (by kernel_rfl) (by kernel_rfl) (by kernel_rfl) (fun _ _ _ h => h) (Or.inl ⟨by rfl, ?_⟩) (by assumption) ?_
      rotate_left 1
      · (intro w hSw; (try dsimp only at hSw); go_simp; (try with_reducible rfl))
      (try simp only [Act.put, List.setIfInBounds_toArray, List.set_cons_zero, List.set_cons_succ])
      refine wpAnyH_take (i := 7) (oi := { dst := some 27, op := Op.move (Operand.tmp 4), type := 3, pos := _, after := #[], guard := none }) (v := ?_) rfl (by kernel_rfl) (by kernel_rfl) (by kernel_rfl) (fun _ _ _ h => h) (Or.inl ⟨by rfl, ?_⟩) (by assumption) ?_
      rotate_left 1
      · (intro w hSw; (try dsimp only at hSw); go_simp; (try with_reducible rfl))
      (try simp only [Act.put, List.setIfInBounds_toArray, List.set_cons_zero, List.set_cons_succ])
      refine wpAnyH_ready (rs := [6, 8]) (by kernel_rfl) (by simp) ?_
      refine AllReadyH.cons (o := { dst := some 26, op := Op.lookup 237 (Operand.tmp 23) (Operand.tmp 25) false, type := 45, pos := _, after := #[{ on := 3, ground := Ground.data }, { on := 5, ground := Ground.data }], guard := none }) rfl (fun K hK => ?_) (AllReadyH.cons (o := { dst := some 28, op := Op.buildSlice 45 1 #[(0, Operand.tmp 27)], type := 45, pos := _, after := #[{ on := 7, ground := Ground.data }], guard := none }) rfl (fun K hK => ?_) AllReadyH.nil)
      · (refine step_lookup_groups (by rfl) _ _ 237 (by rfl) 9 45 3 .i64 mapStr Tryz.underlying237 (zeroInts _) (w.heap.size + 2) (w.heap.size + 1) k D (by rfl) (by first | exact hownD | exact groups_quiet hownD (World.grownBy_alloc _ _ _)) (by unfold maxLen; omega) _ _ (by rfl) (keyM hCk) ?_; intro v zs hat hoi hzl hback; have hoff := own_off hoi hHeld.1 (by decide))
        refine hK.out _ _ ?_ (fun hNew => ?_)
        · exact hHeld
        clear hK K
        have hHeld := hNew
        clear hNew
        (try dsimp only at hHeld)
        (try simp only [Act.put, List.setIfInBounds_toArray, List.set_cons_zero, List.set_cons_succ])
        refine wpAnyH_ready (rs := [8]) (by kernel_rfl) (by simp) ?_
        refine AllReadyH.cons (o := { dst := some 28, op := Op.buildSlice 45 1 #[(0, Operand.tmp 27)], type := 45, pos := _, after := #[{ on := 7, ground := Ground.data }], guard := none }) rfl (fun K hK => ?_) AllReadyH.nil
        (first  | go_simp)
        refine hK.out _ _ ?_ (fun hNew => ?_)
        · exact grown_kept (World.grownBy_alloc _ _ none) (by simp) hHeld
        clear hK K
        have hHeld := hNew
        clear hNew
        (try dsimp only at hHeld)
        (try simp only [Act.put, List.setIfInBounds_toArray, List.set_cons_zero, List.set_cons_succ])
        refine wpAnyH_ready (rs := [9]) (by kernel_rfl) (by simp) ?_
        refine AllReadyH.cons (o := { dst := some 29, op := Op.call { callee := Callee.builtin Builtin.append, args := #[Operand.tmp 26, Operand.tmp 28], argTypes := #[45, 45] }, type := 45, pos := _, after := #[{ on := 6, ground := Ground.data }, { on := 8, ground := Ground.data }], guard := none }) rfl (fun K hK => ?_) AllReadyH.nil
        (first | (first | refine step_append_own_at (by rfl) _ _ 45 (by rfl) (w.heap.size + 2) 3 i0 (.int .i64 0) 1 8 Tryz.underlying45 hi hz0 hz1 hz2 (by rfl) (by decide) v zs.length (zs.map (Value.int .i64)) (by rfl) (by first | exact hoi.1 | exact hoi.1.alloc _) _ 1 1 [.int .i64 k] (by rfl) (by rfl) (cell_one_new _ _ _) (ints_oneCell .i64 [(k : Int)]) (by unfold maxLen; omega) (by omega) (by simp; omega) ?_; intro v' w1 hown' hgrow hnil hloc) | (go_simp; (first | refine step_append_own_at (by rfl) _ _ 45 (by rfl) (w.heap.size + 2) 3 i0 (.int .i64 0) 1 8 Tryz.underlying45 hi hz0 hz1 hz2 (by rfl) (by decide) v zs.length (zs.map (Value.int .i64)) (by rfl) (by first | exact hoi.1 | exact hoi.1.alloc _) _ 1 1 [.int .i64 k] (by rfl) (by rfl) (cell_one_new _ _ _) (ints_oneCell .i64 [(k : Int)]) (by unfold maxLen; omega) (by omega) (by simp; omega) ?_; intro v' w1 hown' hgrow hnil hloc)))
        refine hK.out _ _ ?_ (fun hNew => ?_)
        · exact grown_kept hgrow hoff hHeld
        clear hK K
        have hHeld := hNew
        clear hNew
        (try dsimp only at hHeld)
        (try simp only [Act.put, List.setIfInBounds_toArray, List.set_cons_zero, List.set_cons_succ])
        refine wpAnyH_ready (rs := [10]) (by kernel_rfl) (by simp) ?_
        refine AllReadyH.cons (o := { dst := none, op := Op.mapUpdate 237 (Operand.tmp 20) (Operand.tmp 22) (Operand.tmp 29), type := 0, pos := _, after := #[{ on := 0, ground := Ground.data }, { on := 2, ground := Ground.data }, { on := 9, ground := Ground.data }, { on := 9, ground := Ground.chain }, { on := 0, ground := Ground.phase }, { on := 1, ground := Ground.phase }, { on := 2, ground := Ground.phase }, { on := 3, ground := Ground.phase }, { on := 4, ground := Ground.phase }, { on := 5, ground := Ground.phase }, { on := 6, ground := Ground.phase }, { on := 7, ground := Ground.phase }, { on := 8, ground := Ground.phase }, { on := 9, ground := Ground.phase }], guard := none }) rfl (fun K hK => ?_) AllReadyH.nil
        (refine step_mapUpdate_back (by rfl) _ _ _ 237 (by rfl) hback (by rfl) (by rfl) (by rfl) (by first | exact hgrow | exact (World.grownBy_alloc _ _ _).trans hgrow) (hoi.appended hown' (WalkArith.wf_i64 (by omega))) (by simp; omega) (hloc.imp id (fun h => ⟨_, h, by simp⟩)) ?_; intro w2 hown2 hgrow2)
        refine hK.out _ _ ?_ (fun hNew => ?_)
        · exact grown_kept hgrow2 (by simp; omega) hHeld
        clear hK K
        have hHeld := hNew
        clear hNew
        (try dsimp only at hHeld)
        (try simp only [Act.put, List.setIfInBounds_toArray, List.set_cons_zero, List.set_cons_succ])
        refine wpAnyH_done (by kernel_rfl) ?_ _
        refine NoPanic.normal ?_
        have hown3 : w2.ownsGroups Tryz.prog 9 (w.heap.size + 2) 3 .i64 (w.heap.size + 1) (k + 1) (D.put (keyL C) (.slice (Go.ChangeShapes.lits .i64 (idxS m C k ++ [(k : Int)])) [])) := by rw [← AtI_at HAt.out C hoi hat, ← (hoi.appended hown' (WalkArith.wf_i64 (by omega))).datum_pos (by simp)]; exact hown2
        have hBn : Below (w.heap.size + 1) (w.alloc (.cells #[.slice (some ad) m.length c1, .slice A2 s.length c2] 38)) w2 := Below.groups (by first | exact hBD | exact hBD.alloc (by omega) _) hoi (by first | exact hgrow | exact (World.grownBy_alloc _ _ _).trans hgrow) hgrow2 (by (try simp); omega) (by omega) (Nat.le_refl _)
        have hsz : w.heap.size + 2 ≤ w2.heap.size := by have e1 := hgrow.size; have e2 := hgrow2.size; (try simp at e1); omega
        have hA3 : AtI (D.put (keyL C) (.slice (Go.ChangeShapes.lits .i64 (idxS m C k ++ [(k : Int)])) [])) m (k + 1) := by have := AtI_step HAt.out; rwa [HC.out] at this
        clear hown2 hgrow hgrow2 hnil hloc hown' hback hoi hat hSD hBD hownD hHeld
        have HA3 := Lib.hid hA3
        clear hA3
        go_wp2
        go_roundw
        · exact ⟨k + 1, by omega, by go_num, ⟨_, hown3, HA3.out⟩, hBn, hsz⟩
        · simp [RowKit.intOf]; omega
      · (first  | go_simp)
        refine hK.out _ _ ?_ (fun hNew => ?_)
        · exact grown_kept (World.grownBy_alloc _ _ none) (by simp) hHeld
        clear hK K
        have hHeld := hNew
        clear hNew
        (try dsimp only at hHeld)
        (try simp only [Act.put, List.setIfInBounds_toArray, List.set_cons_zero, List.set_cons_succ])
        refine wpAnyH_ready (rs := [6]) (by kernel_rfl) (by simp) ?_
        refine AllReadyH.cons (o := { dst := some 26, op := Op.lookup 237 (Operand.tmp 23) (Operand.tmp 25) false, type := 45, pos := _, after := #[{ on := 3, ground := Ground.data }, { on := 5, ground := Ground.data }], guard := none }) rfl (fun K hK => ?_) AllReadyH.nil
        (refine step_lookup_groups (by rfl) _ _ 237 (by rfl) 9 45 3 .i64 mapStr Tryz.underlying237 (zeroInts _) (w.heap.size + 2) (w.heap.size + 1) k D (by rfl) (by first | exact hownD | exact groups_quiet hownD (World.grownBy_alloc _ _ _)) (by unfold maxLen; omega) _ _ (by rfl) (keyM hCk) ?_; intro v zs hat hoi hzl hback; have hoff := own_off hoi hHeld.1 (by decide))
        refine hK.out _ _ ?_ (fun hNew => ?_)
        · exact hHeld
        clear hK K
        have hHeld := hNew
        clear hNew
        (try dsimp only at hHeld)
        (try simp only [Act.put, List.setIfInBounds_toArray, List.set_cons_zero, List.set_cons_succ])
        refine wpAnyH_ready (rs := [9]) (by kernel_rfl) (by simp) ?_
        refine AllReadyH.cons (o := { dst := some 29, op := Op.call { callee := Callee.builtin Builtin.append, args := #[Operand.tmp 26, Operand.tmp 28], argTypes := #[45, 45] }, type := 45, pos := _, after := #[{ on := 6, ground := Ground.data }, { on := 8, ground := Ground.data }], guard := none }) rfl (fun K hK => ?_) AllReadyH.nil
        (first | (first | refine step_append_own_at (by rfl) _ _ 45 (by rfl) (w.heap.size + 2) 3 i0 (.int .i64 0) 1 8 Tryz.underlying45 hi hz0 hz1 hz2 (by rfl) (by decide) v zs.length (zs.map (Value.int .i64)) (by rfl) (by first | exact hoi.1 | exact hoi.1.alloc _) _ 1 1 [.int .i64 k] (by rfl) (by rfl) (cell_one_new _ _ _) (ints_oneCell .i64 [(k : Int)]) (by unfold maxLen; omega) (by omega) (by simp; omega) ?_; intro v' w1 hown' hgrow hnil hloc) | (go_simp; (first | refine step_append_own_at (by rfl) _ _ 45 (by rfl) (w.heap.size + 2) 3 i0 (.int .i64 0) 1 8 Tryz.underlying45 hi hz0 hz1 hz2 (by rfl) (by decide) v zs.length (zs.map (Value.int .i64)) (by rfl) (by first | exact hoi.1 | exact hoi.1.alloc _) _ 1 1 [.int .i64 k] (by rfl) (by rfl) (cell_one_new _ _ _) (ints_oneCell .i64 [(k : Int)]) (by unfold maxLen; omega) (by omega) (by simp; omega) ?_; intro v' w1 hown' hgrow hnil hloc)))
        refine hK.out _ _ ?_ (fun hNew => ?_)
        · exact grown_kept hgrow hoff hHeld
        clear hK K
        have hHeld := hNew
        clear hNew
        (try dsimp only at hHeld)
        (try simp only [Act.put, List.setIfInBounds_toArray, List.set_cons_zero, List.set_cons_succ])
        refine wpAnyH_ready (rs := [10]) (by kernel_rfl) (by simp) ?_
        refine AllReadyH.cons (o := { dst := none, op := Op.mapUpdate 237 (Operand.tmp 20) (Operand.tmp 22) (Operand.tmp 29), type := 0, pos := _, after := #[{ on := 0, ground := Ground.data }, { on := 2, ground := Ground.data }, { on := 9, ground := Ground.data }, { on := 9, ground := Ground.chain }, { on := 0, ground := Ground.phase }, { on := 1, ground := Ground.phase }, { on := 2, ground := Ground.phase }, { on := 3, ground := Ground.phase }, { on := 4, ground := Ground.phase }, { on := 5, ground := Ground.phase }, { on := 6, ground := Ground.phase }, { on := 7, ground := Ground.phase }, { on := 8, ground := Ground.phase }, { on := 9, ground := Ground.phase }], guard := none }) rfl (fun K hK => ?_) AllReadyH.nil
        (refine step_mapUpdate_back (by rfl) _ _ _ 237 (by rfl) hback (by rfl) (by rfl) (by rfl) (by first | exact hgrow | exact (World.grownBy_alloc _ _ _).trans hgrow) (hoi.appended hown' (WalkArith.wf_i64 (by omega))) (by simp; omega) (hloc.imp id (fun h => ⟨_, h, by simp⟩)) ?_; intro w2 hown2 hgrow2)
        refine hK.out _ _ ?_ (fun hNew => ?_)
        · exact grown_kept hgrow2 (by simp; omega) hHeld
        clear hK K
        have hHeld := hNew
        clear hNew
        (try dsimp only at hHeld)
        (try simp only [Act.put, List.setIfInBounds_toArray, List.set_cons_zero, List.set_cons_succ])
        refine wpAnyH_done (by kernel_rfl) ?_ _
        refine NoPanic.normal ?_
        have hown3 : w2.ownsGroups Tryz.prog 9 (w.heap.size + 2) 3 .i64 (w.heap.size + 1) (k + 1) (D.put (keyL C) (.slice (Go.ChangeShapes.lits .i64 (idxS m C k ++ [(k : Int)])) [])) := by rw [← AtI_at HAt.out C hoi hat, ← (hoi.appended hown' (WalkArith.wf_i64 (by omega))).datum_pos (by simp)]; exact hown2
        have hBn : Below (w.heap.size + 1) (w.alloc (.cells #[.slice (some ad) m.length c1, .slice A2 s.length c2] 38)) w2 := Below.groups (by first | exact hBD | exact hBD.alloc (by omega) _) hoi (by first | exact hgrow | exact (World.grownBy_alloc _ _ _).trans hgrow) hgrow2 (by (try simp); omega) (by omega) (Nat.le_refl _)
        have hsz : w.heap.size + 2 ≤ w2.heap.size := by have e1 := hgrow.size; have e2 := hgrow2.size; (try simp at e1); omega
        have hA3 : AtI (D.put (keyL C) (.slice (Go.ChangeShapes.lits .i64 (idxS m C k ++ [(k : Int)])) [])) m (k + 1) := by have := AtI_step HAt.out; rwa [HC.out] at this
        clear hown2 hgrow hgrow2 hnil hloc hown' hback hoi hat hSD hBD hownD hHeld
        have HA3 := Lib.hid hA3
        clear hA3
        go_wp2
        go_roundw
        · exact ⟨k + 1, by omega, by go_num, ⟨_, hown3, HA3.out⟩, hBn, hsz⟩
        · simp [RowKit.intOf]; omega
    · obtain rfl : k = m.length := by omega
      have hkw : wr.cell? ⟨w.heap.size, 1, none⟩ = some (.slice A2 s.length c2) := (hB.cell (p := ⟨w.heap.size, 1, none⟩) (Nat.lt_succ_self _)).trans (by simp)
      go_wp2
      have hR2 := H2.out.below hB0
      obtain ⟨W1, rfl⟩ : ∃ W1 : World, W1 = wr := ⟨_, rfl⟩
      have HAt := Lib.hid hAt
      clear hAt hRd hkw hB
      go_loopw [6, 34] (fun o i wr => ∃ j : Nat, j ≤ s.length ∧ i = .int .i64 j ∧ wr.ownsRow W1.heap.size 75 2 o (toP m s j).length ((toP m s j).flatMap prV) ∧ Below W1.heap.size W1 wr) (fun _ i _ => s.length - (RowKit.intOf i).toNat)
      case atStart => exact ⟨0, Nat.zero_le _, rfl, World.ownsRow_nil _ _ _ _, Below.refl _ _⟩
      case round =>
        obtain ⟨j, hj', rfl, hro, hbw⟩ := hrel
        by_cases hlj : j < s.length
        · obtain ⟨ad, rfl, hbl, hcs⟩ := (hR2.below (hbw.mono (by have := hB0.size; omega))).at_ (by omega)
          have hc0 := hcs (j * 2) _ (flat2 s j hlj).1
          have hc1 := hcs (j * 2 + 1) _ (flat2 s j hlj).2
          rw [← addr_add, show (1 : Nat) = 0 + 1 from rfl, addr_succ, Nat.zero_add] at hc1
          clear hcs
          obtain ⟨C, hC⟩ : ∃ C, (s.getD j thD).kind = C := ⟨_, rfl⟩
          obtain ⟨p, hp⟩ : ∃ p, (s.getD j thD).place = p := ⟨_, rfl⟩
          have hCk : C.size ≤ maxLen := hC ▸ hks j
          rw [hC] at hc0
          rw [hp] at hc1
          have HC := Lib.hid hC
          clear hp hC
          have hgr := grown_below hbw
          go_wp2_with (first
            | (at_lookup; refine wpList_lookup_old _ rfl _ _ 237 rfl W1 9 45 3 .i64 mapStr Tryz.underlying237 (zeroInts _) (w.heap.size + 2) (w.heap.size + 1) m.length D rfl hown (hgr.trans (World.grownBy_alloc _ _ _)) _ _ rfl (keyM hCk) ?_; intro v zs hat hoi; obtain ⟨A, cap, rfl, _⟩ := own_form hoi.1)
            | go_in)
          obtain ⟨W2, hW2⟩ : ∃ W2 : World, wr.alloc (.cells #[.string C, .int .i64 p] 145) = W2 := ⟨_, rfl⟩
          have hbw2 : Below W1.heap.size W1 W2 := hW2 ▸ hbw.alloc hbw.size _
          have hro2 : W2.ownsRow W1.heap.size 75 2 u6 (toP m s j).length ((toP m s j).flatMap prV) := hW2 ▸ hro.alloc _
          rw [hW2]
          clear hW2 hc0 hc1 hro hbw hgr
          have hzs : zs = idxS m C m.length := AtI_at HAt.out C hoi hat
          have hzl := idxS_length m C m.length
          rw [← hzs] at hzl
          have HZ := Lib.hid hzs
          clear hzs hat
          have HV := Lib.hid (show Rd W1 W1.heap.size 1 (.slice A zs.length cap) zs.length (zs.map (Value.int .i64)) from Rd.of_own hoi.1)
          clear hoi
          have hlen : (toP m s j).length ≤ 4096 := Nat.le_trans (toP_length m s j) (Nat.le_trans (Nat.mul_le_mul (show j ≤ 64 by omega) hm) (by decide))
          go_loopw [6, 44] (fun o i wr => ∃ q : Nat, q ≤ zs.length ∧ i = .int .i64 q ∧ wr.ownsRow W1.heap.size 75 2 o ((toP m s j).length + q) ((toP m s j ++ (zs.take q).map fun z => ((j : Int), z)).flatMap prV) ∧ Below W1.heap.size W1 wr) (fun _ i _ => zs.length - (RowKit.intOf i).toNat)
          case atStart => exact ⟨0, Nat.zero_le _, rfl, by simpa using hro2, hbw2⟩
          case round =>
            obtain ⟨q, hq, rfl, hr, hb⟩ := hrel
            by_cases hlq : q < zs.length
            · obtain ⟨ae, rfl, _, hce⟩ := (HV.out.below hb).at_ (by omega)
              have hc := hce q (.int .i64 (zs.getD q 0)) (by simp [List.getD, hlq])
              clear hce
              obtain ⟨z, hz⟩ : ∃ z, zs.getD q 0 = z := ⟨_, rfl⟩
              rw [hz] at hc
              have HZ2 := Lib.hid hz
              clear hz
              have HR := Lib.hid hr
              clear hr hro2
              go_wp2_with (first
                | (at_builtin; refine wpList_append_own_at _ rfl _ _ 31 rfl W1.heap.size 75 i1 (.agg #[.int .i64 0, .int .i64 0]) 2 16 Tryz.underlying31 hj hy0 hy1 hy2 rfl (by decide) u6 ((toP m s j).length + q) _ rfl (HR.out.alloc _) _ 1 1 [.int .i64 j, .int .i64 z] rfl rfl (cell_two_new _ _ _ _) (by simp [Value.oneCell']) (by unfold maxLen; omega) (by omega) (by have := hb.size; simp; omega) ?_; intro v' w1 hown' hgrow hnil hloc)
                | go_in)
              refine ⟨⟨q + 1, by omega, by simp, ?_, (hb.alloc hb.size _).grown hgrow (by have := hb.size; simp; omega) (fun g hg => (HR.out.lt g hg).1)⟩, by simp [RowKit.intOf]; omega⟩
              rw [take_snoc zs 0 q hlq, HZ2.out, List.map_append, ← List.append_assoc, List.flatMap_append]
              exact hown'
            · obtain rfl : q = zs.length := by omega
              have hend : toP m s (j + 1) = toP m s j ++ (zs.take zs.length).map fun z => ((j : Int), z) := by rw [List.take_length, HZ.out, ← HC.out]; rfl
              have hendl : (toP m s (j + 1)).length = (toP m s j).length + zs.length := by rw [hend]; simp
              have HR := Lib.hid hr
              have HE := Lib.hid hend
              have HL := Lib.hid hendl
              clear hr hend hendl hro2
              go_wp2
              go_roundw
              case rel =>
                refine ⟨j + 1, by omega, by go_num, ?_, hb⟩
                rw [HL.out, HE.out]
                exact HR.out
              case measure => simp [RowKit.intOf]; omega
        · obtain rfl : j = s.length := by omega
          go_wp2
          go_ret
          exact ⟨_, rfl, own_le hro hB0.size, hB0.trans (hbw.mono hB0.size)⟩

/-- A call that gives one row of its own. -/
theorem post_of_row {hin : List (Nat × Chunk)} {ρ : Env} {w w' : World} {N n sz : Nat} {e : TypeId} {u : Value} {c : Cont} {vs : List Value} (hdom : ∀ i L, ρ i = some L → (Sym.look i hin).isSome = true) (hN : Sym.look N hin = none)
    (hc : c.cells = vs.map AV.lit) {base : Nat} (hbase : w.heap.size ≤ base) (h : w'.ownsRow base e sz u n vs) (hb : Below w.heap.size w w') : CallPost hin [(N, .row e n sz c)] (.sl N n) ρ w (.returned u) w' := by
  have hno : ρ N = none := by
    cases e : ρ N with
    | none => rfl
    | some L => have := hdom N L e; rw [hN] at this; cases this
  let ρ' : Env := fun j => if j = N then some (locV u) else ρ j
  have eN : ρ' N = some (locV u) := by simp [ρ']
  obtain ⟨a1, a2⟩ := row_of_own h eN hc
  have only : ∀ {j : Nat} {d : Chunk}, Sym.look j [(N, Chunk.row e n sz c)] = some d → j = N ∧ d = .row e n sz c := by
    intro j d e0
    rw [look_cons] at e0
    split at e0
    · rename_i hj; cases e0; exact ⟨hj, rfl⟩
    · cases e0
  refine ⟨ρ', _, rfl, a2, fun j L' e0 => ?_, ⟨fun j d e0 => ?_, fun j d e0 _ j' d' e' hne => ?_⟩, fun g' hg => ?_, Sym.Touch.of_below hb⟩
  · have : j ≠ N := by rintro rfl; rw [hno] at e0; cases e0
    simp [ρ', this, e0]
  · obtain ⟨rfl, rfl⟩ := only e0
    exact a1
  · obtain ⟨rfl, _⟩ := only e0
    obtain ⟨rfl, _⟩ := only e'
    exact absurd rfl hne
  · obtain ⟨j, d, e0, L', a', o1, o2, o3⟩ := (show ∃ j d, Sym.look j _ = some d ∧ ∃ L' a', ρ' j = some L' ∧ L'.ad = some a' ∧ a'.block = g' from by
      obtain ⟨j, d, e0, ho⟩ := hg
      obtain ⟨rfl, rfl⟩ := only e0
      exact ⟨_, _, e0, ho⟩)
    obtain ⟨rfl, _⟩ := only e0
    rw [eN] at o1
    cases o1
    obtain ⟨A, cap, rfl, _⟩ := own_form h
    simp only [locV] at o2
    subst o2
    refine .inl ?_
    have := (h.lt g' (by simp [Value.ownBlock, o3])).1
    omega

theorem thC_lit (l : List Th) : (thC l).cells = (l.flatMap thV).map AV.lit := genL_cells (f := thV) (fun _ => rfl) l
theorem prC_lit (l : List (Int × Int)) : (prC l).cells = (l.flatMap prV).map AV.lit := genL_cells (f := prV) (fun _ => rfl) l
def AllPairs_i (m s : List Th) (σ : Sym.Ren) : Inst := { f := 81, hin := rideIn m s, args := [rdA m s], hout := [(2, .row 75 (allP m s).length 2 (prC (allP m s)))], ret := .sl 2 (allP m s).length, σ := σ }
theorem AllPairs_s (m s : List Th) (σ : Sym.Ren) (hm : m.length ≤ 64) (hs : s.length ≤ 64) (hkm : ∀ k, (m.getD k thD).kind.size ≤ maxLen) (hks : ∀ k, (s.getD k thD).kind.size ≤ maxLen) : (AllPairs_i m s σ).ok Tryz.prog := by
  refine ⟨⟨_, Tryz.func81, rfl⟩, fun ρ w vs hdom _ hh hd => ?_⟩
  obtain ⟨L1, e1, r1⟩ := rd_of_ro (hh.holds 0 _ rfl) (thC_lit m) (by decide)
  obtain ⟨L2, e2, r2⟩ := rd_of_ro (hh.holds 1 _ rfl) (thC_lit s) (by decide)
  simp only [AllPairs_i, rdA, AV.denL, AV.den, e1, e2, Option.map_some, listO, Option.some.injEq] at hd
  subst hd
  refine (pairs_c m s L1.ad L2.ad L1.cap L2.cap w r1 r2 hm hs hkm hks).mono ?_
  rintro e w' ⟨v, rfl, ho, hb⟩
  exact post_of_row hdom rfl (prC_lit _) (Nat.le_refl _) ho hb

end Go.Proofs.YtfmnfagcbehmdaaGreatDoor
