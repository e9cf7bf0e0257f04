/- Tables in a run: steps that turn no memory, only what is said of it: rows are put into a family; and the end of a region behind a drawn beginning. No program in sight. -/
import Derived.Test.YtlhgddgoblliaaaGreatDoorSymP
set_option linter.unusedVariables false
set_option linter.unusedSimpArgs false
namespace Go.Sym
open Go.RowKit

theorem Sub.trans {F : Frm} {s t u : St} (h1 : Sub F s t) (h2 : Sub F t u) : Sub F s u := fun ρ a w h => let ⟨ρ1, h3⟩ := h1 ρ a w h; h2 ρ1 a w h3

/-- What is known is said otherwise: of the same world. -/
theorem holds_ghost {F : Frm} {T : List (Nat × AV)} {H : List (Nat × Chunk)} {nx : Nat} {ρ : Env} {a : Act} {w : World} (h : Holds F T H nx ρ a w) {ρ' : Env} {H' : List (Nat × Chunk)} {nx' : Nat} (hle : Env.le ρ ρ') (hkeep : ∀ i, i < F.m → ρ' i = ρ i) (hdom : ∀ i L, ρ' i = some L → i < nx')
    (hm : nx ≤ nx') (hh : ∀ i c, look i H' = some c → c.holds ρ' i w) (R : Nat → Nat → Prop) (hR : ∀ i i' i0, R i i0 → R i' i0 → i = i')
    (src : ∀ i c g, look i H' = some c → c.occ ρ' i g → ∃ i0 c0, R i i0 ∧ look i0 H = some c0 ∧ c0.occ ρ i0 g ∧ (c.own = true → c0.own = true)) : Holds F T H' nx' ρ' a w := by
  refine ⟨Nat.le_trans h.m hm, ⟨h.I.size, h.I.defers, fun k av e => ?_, ⟨hh, fun i c e ho j d e' hne g hg hg' => ?_⟩, hdom, fun i hi => (hkeep i hi).trans (h.I.keep i hi), fun g hg => ?_, h.I.touch⟩⟩
  · obtain ⟨v, h1, h2⟩ := h.I.tm k av e
    exact ⟨v, AV.den_mono hle _ _ h1, h2⟩
  · obtain ⟨i0, c0, r1, e1, o1, w1⟩ := src i c g e hg
    obtain ⟨j0, d0, r2, e2, o2, w2⟩ := src j d g e' hg'
    refine h.I.heap.apart i0 c0 e1 (w1 ho) j0 d0 e2 (fun q => hne ?_) g o1 o2
    subst q
    exact (hR _ _ _ r1 r2).symm
  · obtain ⟨i, c, e, ho, hg⟩ := hg
    obtain ⟨i0, c0, r1, e1, o1, w1⟩ := src i c g e hg
    exact h.I.fresh g ⟨i0, c0, e1, w1 ho, o1⟩

theorem free_nx {F : Frm} {T : List (Nat × AV)} {H : List (Nat × Chunk)} {nx : Nat} {ρ : Env} {a : Act} {w : World} (h : Holds F T H nx ρ a w) : ρ nx = none := by
  cases e : ρ nx with
  | none => rfl
  | some L => have := h.I.dom nx L e; (try dsimp only at this); omega
theorem look_lt {F : Frm} {T : List (Nat × AV)} {H : List (Nat × Chunk)} {nx : Nat} {ρ : Env} {a : Act} {w : World} (h : Holds F T H nx ρ a w) {i : Nat} {c : Chunk} (e : look i H = some c) : i < nx := by
  have hh := h.I.heap.holds i c e
  have : ∃ L, ρ i = some L := by
    cases c with
    | blk t l => obtain ⟨g, cap, vs, e, _⟩ := hh; exact ⟨_, e⟩
    | rb t l => obtain ⟨g, cap, vs, e, _⟩ := hh; exact ⟨_, e⟩
    | row t n sz c => obtain ⟨L, vs, e, _⟩ := hh; exact ⟨_, e⟩
    | ro n sz c => obtain ⟨L, vs, e, _⟩ := hh; exact ⟨_, e⟩
    | obj k => obtain ⟨b, cap, vs, e, _⟩ := hh; exact ⟨_, e⟩
    | fam => obtain ⟨L, e, _⟩ := hh; exact ⟨_, e⟩
  obtain ⟨L, e⟩ := this
  exact h.I.dom i L e

theorem RowAt.of_own {w : World} {A : Option Addr} {C m sz : Nat} {te : TypeId} {ck : Cont} {vs : List Value} (h : w.ownsRow 0 te sz (.slice A m C) m vs) (hd : ∀ ρ, AV.denL ρ ck.cells = some vs) (o : Bool) : RowAt w (A, C) o te sz m ck := by
  refine ⟨vs, hd, h.1, ?_, ?_, fun h0 => ?_, fun _ _ => h⟩
  · rcases h.2 with ⟨e1, e2⟩ | ⟨g, cap, cur, e1, _, _, e2, _⟩
    · injection e1 with _ e1 e3; omega
    · injection e1 with _ _ e1; show m ≤ C; omega
  · rcases h.2 with ⟨e1, e2⟩ | ⟨g, cap, cur, e1, _, _, _, e2, _⟩
    · injection e1 with _ e1 e3; show C ≤ _; rw [e3]; exact Nat.zero_le _
    · injection e1 with _ _ e1; show C ≤ _; omega
  · rcases h.2 with ⟨e1, e2⟩ | ⟨g, cap, cur, e1, _⟩
    · rw [e2] at h0; simp at h0
    · injection e1 with e1 _ _
      exact ⟨_, e1, h.cells (g := g) (by rw [e1]; rfl)⟩

theorem denL_map {ρ ρ' : Env} {f f' : Nat → AV} : ∀ {l : List Nat} {vs : List Value}, (∀ q ∈ l, ∀ v, (f q).den ρ = some v → (f' q).den ρ' = some v) → AV.denL ρ (l.map f) = some vs → AV.denL ρ' (l.map f') = some vs
  | [], vs, _, h => by simpa [AV.denL] using h
  | q :: l, vs, hq, h => by
    simp only [List.map_cons, AV.denL] at h ⊢
    obtain ⟨u, us, h1, h2, rfl⟩ := listO_some h
    rw [hq q List.mem_cons_self u h1, denL_map (fun q hm => hq q (List.mem_cons_of_mem _ hm)) h2]
    rfl

/-- A family of no rows. -/
theorem fam0_sub {F : Frm} {T : List (Nat × AV)} {H : List (Nat × Chunk)} {nx : Nat} (o : Bool) (te : TypeId) (sz : Nat) (len : Nat → Nat) (c : Nat → Cont) (hs : 0 < sz) : Sub F ⟨T, H, nx⟩ ⟨T, (nx, .fam o te sz 0 len c) :: H, nx + 1⟩ := by
  intro ρ a w h
  change Holds F T H nx ρ a w at h
  show ∃ ρ', Holds F T _ (nx + 1) ρ' a w
  have hn := free_nx h
  have hle := envSet_le (L := ⟨none, locsN []⟩) hn
  refine ⟨_, holds_ghost h hle (fun i hi => envSet_other _ _ (by have := h.m; (try dsimp only at *); omega)) (fun i L e => ?_) (Nat.le_succ _) (fun i d e => ?_) (fun i i0 => i = i0) (fun i i' i0 h1 h2 => h1.trans h2.symm) (fun i d g e hg => ?_)⟩
  · by_cases hi : i = nx
    · omega
    · rw [envSet_other _ _ hi] at e
      have := h.I.dom i L e
      (try dsimp only at *); omega
  · rw [look_cons] at e
    split at e
    · rename_i hi
      cases e
      subst hi
      exact ⟨_, envSet_same _ _ _, hs, by rw [locs_N]; rfl, fun e r er => (by rw [locs_N] at er; cases er), fun _ e e' r r' a a' er => (by rw [locs_N] at er; cases er)⟩
    · exact Chunk.holds_mono hle (h.I.heap.holds i d e)
  · rw [look_cons] at e
    split at e
    · rename_i hi
      cases e
      subst hi
      obtain ⟨L, e1, q, r, a', e2, _⟩ := hg
      rw [envSet_same] at e1
      cases e1
      rw [locs_N] at e2
      cases e2
    · exact ⟨i, d, rfl, e, Chunk.occ_mono hle (h.I.heap.holds i d e) hg, id⟩

/-! The steps on alone, one name for all; what a branch knows. -/
class Stp (p : Prop) (q : outParam Prop) : Prop where
  h : q → p
section stp
variable {F : Frm} {Q : Exit → St → Prop} {s : St} {K : St → Prop} {id l : Nat} {c : Code}
instance : Stp (thenS K Q (.exit id) s) (Q (.exit id) s) := ⟨gB⟩
instance : Stp (thenS K Q .ret s) (Q .ret s) := ⟨gC⟩
instance : Stp (inBlockS id Q .normal s) (Q .normal s) := ⟨gD⟩
instance : Stp (inBlockS id Q .ret s) (Q .ret s) := ⟨gE⟩
instance : Stp (LWP F (.block id c) Q s) (LWP F c (inBlockS id Q) s) := ⟨gH⟩
instance : Stp (LWP F .skip Q s) (Q .normal s) := ⟨gI⟩
instance : Stp (LWP F (.exit id) Q s) (Q (.exit id) s) := ⟨gJ⟩
instance : Stp (LWP F .ret Q s) (Q .ret s) := ⟨gK⟩
instance : Stp (LWP F (.label l) Q s) (Q .normal s) := ⟨gL⟩
end stp
class Says (b : Bool) (p q : outParam Prop) : Prop where
  t : b = true → p
  f : b = false → q
instance (priority := low) saysB (b : Bool) : Says b (b = true) (b = false) := ⟨fun h => h, fun h => h⟩
instance saysD (p : Prop) [Decidable p] : Says (decide p) p (¬ p) := ⟨of_decide_eq_true, of_decide_eq_false⟩
instance (priority := high) saysE (p : Prop) [Decidable (¬ p)] : Says (decide (¬ p)) (¬ p) p := ⟨of_decide_eq_true, fun h => Classical.byContradiction (of_decide_eq_false h)⟩
instance saysN (b : Bool) {p q : Prop} [h : Says b p q] : Says (!b) q p := ⟨fun e => h.f (by simpa using e), fun e => h.t (by simpa using e)⟩
theorem lwp_condS {F : Frm} {cfg : Cfg} (hC : CfgOk F cfg) {c : Operand} {x y : Code} {T : List (Nat × AV)} {H : List (Nat × Chunk)} {nx : Nat} {b : Bool} {cs : List Cd} {Q : Exit → St → Prop} {p q : Prop} [hs : Says b p q] (he : ev cfg T [] c = some (.lit (.bool b), cs)) (hcs : All cs) (ht : p → LWP F x Q ⟨T, H, nx⟩) (hf : q → LWP F y Q ⟨T, H, nx⟩) : LWP F (.cond c x y) Q ⟨T, H, nx⟩ :=
  lwp_cond hC he hcs (fun e => ht (hs.t e)) (fun e => hf (hs.f e))
/-- The ways through a statement meet behind it. -/
theorem lwp_cut {F : Frm} {x y : Code} {Q : Exit → St → Prop} {s t : St} (h1 : LWP F x (thenS (fun s' => Sub F s' t) Q) s) (h2 : LWP F y Q t) : LWP F (.seq x y) Q s :=
  lwp_seq fun K hK => lwp_mono h1 fun e s' h => by
    cases e with
    | normal => exact hK s' (lwp_sub h h2)
    | _ => exact h

end Go.Sym
