/- Contract: readings.folded. -/
import Derived.Test.YtbpffadffbgloaaGreatDoorD
import Derived.Test.YtbpffadffbgloaaGreatDoorE
import Derived.Test.YtbpffadffbgloaaGreatDoorF
set_option linter.unusedVariables false
set_option linter.unusedSimpArgs false
namespace Go.Proofs.YtbpffadffbgloaaGreatDoor
open Go.RowKit Go.Shelf

attribute [local go_sem] Oper.semAt_some

def terms (l : List (Int × Int)) : List Value := spans l
def sumS (f : Int) (l : List Int) (kn : List Bool) (ts : List (Int × Int)) (p : Int) : Int × Bool :=
  ts.foldl (fun s x => (s.1 + x.1 * (atS f l kn (p + x.2)).1, s.2 && (atS f l kn (p + x.2)).2)) (0, true)
def badS (s : Int × Bool) : Bool := s.2 && (readingS s.1 != 0)
def addS (a : List Int × List (Int × Int)) (s : Int × Bool) : List Int × List (Int × Int) := (a.1 ++ [if s.2 then s.1 else 0], if s.2 then a.2 else holesAdd a.2 a.1.length)
def runS (f : Int) (l : List Int) (kn : List Bool) (ts : List (Int × Int)) (ps : List Int) : List Int × List (Int × Int) := ps.foldl (fun a p => addS a (sumS f l kn ts p)) ([], [])
def foldedS (f : Int) (l : List Int) (kn : List Bool) (ts : List (Int × Int)) (least most : Int) : Tr × Int :=
  if f + l.length - most ≤ f - least then (⟨0, [], []⟩, 16)
  else if (upto (f - least) (f + l.length - most - (f - least)).toNat).any (fun p => badS (sumS f l kn ts p)) then (⟨0, [], []⟩, 4)
  else (⟨f - least, (runS f l kn ts (upto (f - least) (f + l.length - most - (f - least)).toNat)).1, (runS f l kn ts (upto (f - least) (f + l.length - most - (f - least)).toNat)).2⟩, 0)

theorem runS_snoc (f : Int) (l : List Int) (kn : List Bool) (ts : List (Int × Int)) (ps : List Int) (p : Int) : runS f l kn ts (ps ++ [p]) = addS (runS f l kn ts ps) (sumS f l kn ts p) := by
  unfold runS; rw [List.foldl_append]; rfl
theorem holesAdd_len (hs : List (Int × Int)) (i : Nat) : (holesAdd hs i).length ≤ hs.length + 1 := by
  unfold holesAdd
  split
  · split
    · simp
    · simp
  · simp
theorem runS_len (f : Int) (l : List Int) (kn : List Bool) (ts : List (Int × Int)) (ps : List Int) : (runS f l kn ts ps).1.length = ps.length ∧ (runS f l kn ts ps).2.length ≤ ps.length := by
  suffices h : ∀ qs : List Int, (runS f l kn ts qs.reverse).1.length = qs.length ∧ (runS f l kn ts qs.reverse).2.length ≤ qs.length by
    have := h ps.reverse
    rwa [List.reverse_reverse, List.length_reverse] at this
  intro qs
  induction qs with
  | nil => exact ⟨rfl, Nat.le_refl _⟩
  | cons q qs ih =>
    rw [List.reverse_cons, runS_snoc]
    refine ⟨by simp [addS, ih.1], ?_⟩
    unfold addS
    dsimp only
    split
    · simp; omega
    · have := holesAdd_len (runS f l kn ts qs.reverse).2 (runS f l kn ts qs.reverse).1.length
      simp; omega
theorem atS_bound (f : Int) (l : List Int) (kn : List Bool) (p : Int) (h : ∀ x ∈ l, -1073741824 ≤ x ∧ x ≤ 1073741824) : -1073741824 ≤ (atS f l kn p).1 ∧ (atS f l kn p).1 ≤ 1073741824 := by
  unfold atS
  split
  · exact ⟨by decide, by decide⟩
  · dsimp only
    cases hx : l[(p - f).toNat]? with
    | none => exact ⟨by decide, by decide⟩
    | some y => exact h y (List.mem_of_getElem? hx)
theorem sumS_snoc (f : Int) (l : List Int) (kn : List Bool) (ts : List (Int × Int)) (p : Int) (k : Nat) (hk : k < ts.length) :
    sumS f l kn (ts.take (k + 1)) p = ((sumS f l kn (ts.take k) p).1 + ts[k].1 * (atS f l kn (p + ts[k].2)).1, (sumS f l kn (ts.take k) p).2 && (atS f l kn (p + ts[k].2)).2) := by
  unfold sumS
  rw [List.take_succ_eq_append_getElem hk, List.foldl_append]
  rfl
theorem mul_bound {a b : Int} (ha : -100000 ≤ a ∧ a ≤ 100000) (hb : -1073741824 ≤ b ∧ b ≤ 1073741824) : -107374182400000 ≤ a * b ∧ a * b ≤ 107374182400000 := by
  have h1 : a.natAbs * b.natAbs ≤ 100000 * 1073741824 := Nat.mul_le_mul (by omega) (by omega)
  have h2 : (a * b).natAbs = a.natAbs * b.natAbs := Int.natAbs_mul a b
  omega
theorem sumS_bound (f : Int) (l : List Int) (kn : List Bool) (ts : List (Int × Int)) (p : Int) (h : ∀ x ∈ l, -1073741824 ≤ x ∧ x ≤ 1073741824) (ht : ∀ x ∈ ts, -100000 ≤ x.1 ∧ x.1 ≤ 100000) :
    ∀ k, k ≤ ts.length → -((k : Int) * 107374182400000) ≤ (sumS f l kn (ts.take k) p).1 ∧ (sumS f l kn (ts.take k) p).1 ≤ (k : Int) * 107374182400000 := by
  intro k
  induction k with
  | zero => intro _; simp [sumS]
  | succ k ih =>
    intro hk
    rw [sumS_snoc _ _ _ _ _ _ (by omega)]
    have h1 := ih (by omega)
    have h2 := mul_bound (ht _ (List.getElem_mem (show k < ts.length by omega))) (atS_bound f l kn (p + ts[k].2) h)
    dsimp only
    rw [show ((k + 1 : Nat) : Int) = (k : Int) + 1 by omega, Int.add_mul]
    omega

/-- The row of a slice is none of the first B blocks. -/
def Fr (B : Nat) (v : Value) : Prop := ∀ k, v.ownBlock = some k → B ≤ k
theorem Fr.nil (B : Nat) : Fr B (.slice none 0 0) := fun k h => by simp [Value.ownBlock] at h
theorem Fr.mono {B C : Nat} {v : Value} (h : Fr B v) (hC : C ≤ B) : Fr C v := fun k hk => Nat.le_trans hC (h k hk)
theorem Rd.far {w : World} {B sz n B0 : Nat} {v : Value} {cs : List Value} (h : Rd w B sz v n cs) (hf : Fr B0 v) {p : Addr} (hp : p.block < B0) (u : Value) : Rd (w.setCell p u) B sz v n cs := by
  obtain ⟨h1, A, c, hv, h2, h3, h4⟩ := h
  refine ⟨h1, A, c, hv, h2, h3, fun hn => ?_⟩
  obtain ⟨ad, e, hb, hc⟩ := h4 hn
  refine ⟨ad, e, hb, fun j u' hu => (World.cell?_setCell_far _ _ _ _ ?_).trans (hc j u' hu)⟩
  subst hv e
  have := hf ad.block rfl
  rw [addr_block]; omega
theorem RdT.far {w : World} {B B0 : Nat} {vv hv : Value} {t : Tr} (h : RdT w B vv hv t) (h1 : Fr B0 vv) (h2 : Fr B0 hv) {p : Addr} (hp : p.block < B0) (u : Value) : RdT (w.setCell p u) B vv hv t := ⟨h.1.far h1 hp u, h.2.far h2 hp u⟩

/-- What a call answers that gives a trace and an error. -/
def TrPost (w : World) (t : Tr × Int) (r : Ending) (w' : World) : Prop :=
  ∃ vv hv, r = .returned (.tuple #[trv t.1.first vv hv, .int .i64 t.2]) ∧ RdT w' w'.heap.size vv hv t.1 ∧ Fr w.heap.size vv ∧ Fr w.heap.size hv ∧ Below w.heap.size w w'

/-- .. whose lists are its alone. -/
def OwnPost (w : World) (t : Tr × Int) (r : Ending) (w' : World) : Prop :=
  ∃ vv hv base, w.heap.size ≤ base ∧ r = .returned (.tuple #[trv t.1.first vv hv, .int .i64 t.2]) ∧ w'.ownsRow base 3 1 vv t.1.vals.length (ints t.1.vals) ∧ w'.ownsRow base 102 2 hv t.1.holes.length (spans t.1.holes) ∧ Below w.heap.size w w'
theorem OwnPost.tr {w : World} {t : Tr × Int} {r : Ending} {w' : World} : OwnPost w t r w' → TrPost w t r w' := by
  rintro ⟨vv, hv, base, hb, rfl, i1, i2, hbw⟩
  exact ⟨_, _, rfl, ⟨Rd.of_own i1, Rd.of_own i2⟩, (fun k hk => by have := own_base i1 hk; omega), (fun k hk => by have := own_base i2 hk; omega), hbw⟩
theorem own_none {w w' : World} {f e : Int} (hb : Below w.heap.size w w') : OwnPost w (⟨f, [], []⟩, e) (.returned (.tuple #[trv f (.slice none 0 0) (.slice none 0 0), .int .i64 e])) w' :=
  ⟨_, _, w.heap.size, Nat.le_refl _, rfl, World.ownsRow_nil _ _ _ _, World.ownsRow_nil _ _ _ _, hb⟩

/-- Between two rounds of the loop over places. -/
def FoldI (w : World) (Bs : Nat) (R : Array Value) (tc : Value) (ff : Int) (run : List Int → List Int × List (Int × Int)) (bad : Int → Bool) (pre : List Pl) (W : World) : Prop :=
  (∃ vv hv, OutAt W Bs (w.heap.size + 1 + 1 + 1 + 1) ff (run (pre.map (·.1))).1 (run (pre.map (·.1))).2 vv hv) ∧ Blk W w.heap.size 114 R ∧ Blk W (w.heap.size + 1) 180 #[tc] ∧
    Blk W (w.heap.size + 1 + 1) 29 #[.int .i64 0, .slice none 0 0, .slice none 0 0] ∧ Blk W (w.heap.size + 1 + 1 + 1) 30 #[.int .i64 0] ∧ Below w.heap.size w W ∧ (pre.map (·.1)).any bad = false
/-- Behind the round that returns. -/
def FoldX (w : World) (bad : Int → Bool) (c : Code) (pre : List Pl) (W : World) : Prop :=
  c = .ret ∧ Blk W (w.heap.size + 1 + 1) 29 #[.int .i64 0, .slice none 0 0, .slice none 0 0] ∧ Blk W (w.heap.size + 1 + 1 + 1) 30 #[.int .i64 4] ∧ Below w.heap.size w W ∧ (pre.map (·.1)).any bad = true
theorem foldI_own (w : World) (Bs : Nat) (R : Array Value) (tc : Value) (ff : Int) (run : List Int → List Int × List (Int × Int)) (bad : Int → Bool) (B : Nat) (hB : w.heap.size ≤ B) : OwnFrom B (FoldI w Bs R tc ff run bad) := by
  rintro pre W W' row ⟨⟨vv, hv, h1, h2, h3, h4⟩, k4, k5, k8, k9, hb, hbad⟩ hg hr
  have hr' : ∀ r, row = some r → ∃ o : Obj, W.heap[r]? = some o ∧ o.isCells = false := fun r e => (hr r e).2
  exact ⟨⟨vv, hv, blk_row h1 hg hr', own_row h2 hg hr', own_row h3 hg hr', Nat.le_trans h4 hg.size⟩, blk_row k4 hg hr', blk_row k5 hg hr', blk_row k8 hg hr', blk_row k9 hg hr',
    hb.grown hg hb.size (fun r e => Nat.le_trans hB (hr r e).1), hbad⟩
theorem foldX_own (w : World) (bad : Int → Bool) (c : Code) (B : Nat) (hB : w.heap.size ≤ B) : OwnFrom B (FoldX w bad c) := by
  rintro pre W W' row ⟨hc, k8, k9, hb, hbad⟩ hg hr
  have hr' : ∀ r, row = some r → ∃ o : Obj, W.heap[r]? = some o ∧ o.isCells = false := fun r e => (hr r e).2
  exact ⟨hc, blk_row k8 hg hr', blk_row k9 hg hr', hb.grown hg hb.size (fun r e => Nat.le_trans hB (hr r e).1), hbad⟩

theorem blk5 (w : World) (A B C D E : Array Value) (ta tb tc td te : TypeId) :
    Blk (((((w.alloc (.cells A ta)).alloc (.cells B tb)).alloc (.cells C tc)).alloc (.cells D td)).alloc (.cells E te)) w.heap.size ta A ∧
    Blk (((((w.alloc (.cells A ta)).alloc (.cells B tb)).alloc (.cells C tc)).alloc (.cells D td)).alloc (.cells E te)) (w.heap.size + 1) tb B ∧
    Blk (((((w.alloc (.cells A ta)).alloc (.cells B tb)).alloc (.cells C tc)).alloc (.cells D td)).alloc (.cells E te)) (w.heap.size + 1 + 1) tc C ∧
    Blk (((((w.alloc (.cells A ta)).alloc (.cells B tb)).alloc (.cells C tc)).alloc (.cells D td)).alloc (.cells E te)) (w.heap.size + 1 + 1 + 1) td D ∧
    Blk (((((w.alloc (.cells A ta)).alloc (.cells B tb)).alloc (.cells C tc)).alloc (.cells D td)).alloc (.cells E te)) (w.heap.size + 1 + 1 + 1 + 1) te E ∧
    Below w.heap.size w (((((w.alloc (.cells A ta)).alloc (.cells B tb)).alloc (.cells C tc)).alloc (.cells D td)).alloc (.cells E te)) := by
  have s1 : (w.alloc (.cells A ta)).heap.size = w.heap.size + 1 := by simp
  have s2 : ((w.alloc (.cells A ta)).alloc (.cells B tb)).heap.size = w.heap.size + 1 + 1 := by simp
  have s3 : (((w.alloc (.cells A ta)).alloc (.cells B tb)).alloc (.cells C tc)).heap.size = w.heap.size + 1 + 1 + 1 := by simp
  have s4 : ((((w.alloc (.cells A ta)).alloc (.cells B tb)).alloc (.cells C tc)).alloc (.cells D td)).heap.size = w.heap.size + 1 + 1 + 1 + 1 := by simp
  refine ⟨((((Blk.new w ta A).alloc _).alloc _).alloc _).alloc _, ?_, ?_, ?_, ?_, by (repeat (first | with_reducible exact Below.refl _ _ | with_reducible assumption | with_reducible exact And.left (by assumption) | with_reducible exact And.left (And.right (by assumption)) | with_reducible refine Below.setCell ?_ (by dsimp only; omega) _ | with_reducible refine Below.allocE ?_ _ | with_reducible refine Below.drew ?_ | exact Below.refl _ _ | assumption | exact And.left (by assumption) | exact And.left (And.right (by assumption)) | refine Below.drew ?_ | refine Below.allocE ?_ _ | refine Below.setCell ?_ (by dsimp only; omega) _))⟩
  · rw [← s1]; exact (((Blk.new _ tb B).alloc _).alloc _).alloc _
  · rw [← s2]; exact ((Blk.new _ tc C).alloc _).alloc _
  · rw [← s3]; exact (Blk.new _ td D).alloc _
  · rw [← s4]; exact Blk.new _ te E

set_option maxRecDepth 100000 in
set_option maxHeartbeats 2000000 in
theorem folded_own (f least most : Int) (vv hv kv tv : Value) (l : List Int) (kn : List Bool) (ts : List (Int × Int)) (w : World)
    (h : Rd w w.heap.size 1 vv l.length (ints l)) (hk : Rd w w.heap.size 1 kv kn.length (bools kn)) (hkl : kn.length = l.length) (ht : Rd w w.heap.size 2 tv ts.length (terms ts))
    (f0 : 0 ≤ f) (f1 : f ≤ 100000000) (hl : l.length ≤ 4096) (l0 : -100000 ≤ least) (l1 : least ≤ 100000) (m0 : -100000 ≤ most) (m1 : most ≤ 100000)
    (hv1 : ∀ x ∈ l, -1073741824 ≤ x ∧ x ≤ 1073741824) (htn : ts.length ≤ 4096) (htb : ∀ x ∈ ts, (-100000 ≤ x.1 ∧ x.1 ≤ 100000) ∧ (-100000 ≤ x.2 ∧ x.2 ≤ 100000)) :
    Calls Tryz.prog 110 #[rdv f vv hv kv, tv, .int .i64 least, .int .i64 most] w (OwnPost w (foldedS f l kn ts least most)) := by
  obtain ⟨A, c, rfl, h1, h2⟩ := h.slice
  obtain ⟨A', c', rfl, h1', h2'⟩ := ht.slice
  unfold rdv
  refine (callsIn_wide (n := 5)).1 (callsIn_of_wp_marks Tryz.func110 rfl trivial ?_ rfl)
  refine wpIn_wide.2 ?_
  simp only [Tryz.ntmps110, List.size_toArray, List.length_cons, List.length_nil, Nat.reduceAdd, Nat.reduceSub, Array.replicate_succ, Array.replicate_zero, List.push_toArray, List.append_toArray, List.nil_append, List.cons_append]
  go_wp2
  obtain ⟨k4, k5, k8, k9, k10, hB0⟩ := blk5 w #[.int .i64 f, .slice A l.length c, hv, kv] #[.slice A' ts.length c'] #[.int .i64 0, .slice none 0 0, .slice none 0 0] #[.int .i64 0] #[.int .i64 (f - least), .slice none 0 0, .slice none 0 0] 114 180 29 30 29
  generalize hW : World.alloc (World.alloc (World.alloc (World.alloc (World.alloc w _) _) _) _) _ = W0 at *
  clear hW
  have c40 := k4.c 0 _ rfl
  have c41 := k4.c 1 _ rfl
  have c42 := k4.c 2 _ rfl
  have c43 := k4.c 3 _ rfl
  have c50 := k5.c 0 _ rfl
  have c100 := k10.c 0 _ rfl
  have f80 := k8.frozen 0
  have f81 := k8.frozen 1
  have f82 := k8.frozen 2
  have f90 := k9.frozen 0
  have c80 := k8.c 0 _ rfl
  have c81 := k8.c 1 _ rfl
  have c82 := k8.c 2 _ rfl
  have c90 := k9.c 0 _ rfl
  simp only [List.getElem_toArray, List.getElem_cons_zero, List.getElem_cons_succ] at c40 c41 c42 c43 c50 c100 c80 c81 c82 c90
  have K4 := Lib.hid k4
  have K5 := Lib.hid k5
  have K8 := Lib.hid k8
  have K9 := Lib.hid k9
  have K10 := Lib.hid k10
  clear k4 k5 k8 k9 k10
  have hwr : wrap64 (f + (l.length : Int)) = f + l.length := IntWalk.wrap64_in _ ⟨by omega, by omega⟩
  have hw1 : IntKind.i64.wrap (f + (l.length : Int) - most) = f + l.length - most := IntWalk.i64_in _ (by omega)
  by_cases hsh : f + l.length - most ≤ f - least
  · refine wp_region_noPanic ?_
    refine wp_region_held_drew (S := fun w' => Below W0.heap.size W0 w' ∧ w'.cell? ⟨w.heap.size, 0, none⟩ = some (.int .i64 f) ∧ w'.cell? ⟨w.heap.size, 1, none⟩ = some (.slice A l.length c) ∧ w'.cell? ⟨w.heap.size, 2, none⟩ = some hv ∧ w'.cell? ⟨w.heap.size + 1 + 1 + 1 + 1, 0, none⟩ = some (.int .i64 (f - least))) (by kernel_rfl) ?_ (fun hHeld => ?_)
    · first | exact rfl | ((try dsimp only); ((repeat' apply And.intro) <;> first | go_keep | exact cell_ext (by go_keep) hbe | (refine Below.ext ?_ hbe; first | assumption | exact And.left (by assumption) | exact And.left (And.right (by assumption)) | (repeat (first | with_reducible exact Below.refl _ _ | with_reducible assumption | with_reducible exact And.left (by assumption) | with_reducible exact And.left (And.right (by assumption)) | with_reducible refine Below.setCell ?_ (by dsimp only; omega) _ | with_reducible refine Below.allocE ?_ _ | with_reducible refine Below.drew ?_ | exact Below.refl _ _ | assumption | exact And.left (by assumption) | exact And.left (And.right (by assumption)) | refine Below.drew ?_ | refine Below.allocE ?_ _ | refine Below.setCell ?_ (by dsimp only; omega) _))) | (repeat (first | with_reducible exact Below.refl _ _ | with_reducible assumption | with_reducible exact And.left (by assumption) | with_reducible exact And.left (And.right (by assumption)) | with_reducible refine Below.setCell ?_ (by dsimp only; omega) _ | with_reducible refine Below.allocE ?_ _ | with_reducible refine Below.drew ?_ | exact Below.refl _ _ | assumption | exact And.left (by assumption) | exact And.left (And.right (by assumption)) | refine Below.drew ?_ | refine Below.allocE ?_ _ | refine Below.setCell ?_ (by dsimp only; omega) _))))
    refine wpAnyH_take (i := 0) (oi := { dst := some 24, op := Op.fieldAddr 29 (Operand.tmp 10) 0, type := 0, pos := _, after := #[], guard := none }) (v := ?_) rfl (by kernel_rfl) (by kernel_rfl) (by kernel_rfl) (fun _ _ _ h => h) (Or.inl ⟨by rfl, ?_⟩) (by assumption) ?_
    rotate_left 1
    · (intro w hSw; (try dsimp only at hSw); go_simp; (try with_reducible rfl))
    (try simp only [Act.put, List.setIfInBounds_toArray, List.set_cons_zero, List.set_cons_succ])
    refine wpAnyH_take (i := 1) (oi := { dst := some 25, op := Op.load 3 (Operand.tmp 24), type := 3, pos := _, after := #[{ on := 0, ground := Ground.data }], guard := none }) (v := ?_) rfl (by kernel_rfl) (by kernel_rfl) (by kernel_rfl) (fun _ _ _ h => h) (Or.inl ⟨by rfl, ?_⟩) (by assumption) ?_
    rotate_left 1
    · (intro w hSw; (try dsimp only at hSw); go_simp; (try with_reducible rfl))
    (try simp only [Act.put, List.setIfInBounds_toArray, List.set_cons_zero, List.set_cons_succ])
    refine wpAnyH_take (i := 2) (oi := { dst := some 26, op := Op.fieldAddr 114 (Operand.tmp 4) 0, type := 0, pos := _, after := #[], guard := none }) (v := ?_) rfl (by kernel_rfl) (by kernel_rfl) (by kernel_rfl) (fun _ _ _ h => h) (Or.inl ⟨by rfl, ?_⟩) (by assumption) ?_
    rotate_left 1
    · (intro w hSw; (try dsimp only at hSw); go_simp; (try with_reducible rfl))
    (try simp only [Act.put, List.setIfInBounds_toArray, List.set_cons_zero, List.set_cons_succ])
    refine wpAnyH_take (i := 3) (oi := { dst := some 27, op := Op.load 29 (Operand.tmp 26), type := 29, pos := _, after := #[{ on := 2, ground := Ground.data }], guard := none }) (v := ?_) rfl (by kernel_rfl) (by kernel_rfl) (by kernel_rfl) (fun _ _ _ h => h) (Or.inl ⟨by rfl, ?_⟩) (by assumption) ?_
    rotate_left 1
    · (intro w hSw; (try dsimp only at hSw); go_simp; (try with_reducible rfl))
    (try simp only [Act.put, List.setIfInBounds_toArray, List.set_cons_zero, List.set_cons_succ])
    refine wpAnyH_take (i := 5) (oi := { dst := some 29, op := Op.move (Operand.tmp 3), type := 3, pos := _, after := #[], guard := none }) (v := ?_) rfl (by kernel_rfl) (by kernel_rfl) (by kernel_rfl) (fun _ _ _ h => h) (Or.inl ⟨by rfl, ?_⟩) (by assumption) ?_
    rotate_left 1
    · (intro w hSw; (try dsimp only at hSw); go_simp; (try with_reducible rfl))
    (try simp only [Act.put, List.setIfInBounds_toArray, List.set_cons_zero, List.set_cons_succ])
    refine wpAnyH_ready (rs := [4]) (by kernel_rfl) (by simp) ?_
    refine AllReadyH.cons (o := { dst := some 28, op := Op.call { callee := Callee.value (Operand.func 61), args := #[Operand.tmp 27], argTypes := #[29] }, type := 3, pos := _, after := #[{ on := 3, ground := Ground.data }], guard := none }) rfl (fun K hK => ?_) AllReadyH.nil
    (first | (first | (go_at_call 61; refine (end_c f A l.length c _ _ h1 h2).mono ?_; rintro e w' ⟨rfl, hbe⟩)) | (go_simp; (first | (go_at_call 61; refine (end_c f A l.length c _ _ h1 h2).mono ?_; rintro e w' ⟨rfl, hbe⟩))))
    refine hK.out _ _ ?_ (fun hNew => ?_)
    · (try dsimp only); ((repeat' apply And.intro) <;> first | go_keep | exact cell_ext (by go_keep) hbe | (refine Below.ext ?_ hbe; first | assumption | exact And.left (by assumption) | exact And.left (And.right (by assumption)) | (repeat (first | with_reducible exact Below.refl _ _ | with_reducible assumption | with_reducible exact And.left (by assumption) | with_reducible exact And.left (And.right (by assumption)) | with_reducible refine Below.setCell ?_ (by dsimp only; omega) _ | with_reducible refine Below.allocE ?_ _ | with_reducible refine Below.drew ?_ | exact Below.refl _ _ | assumption | exact And.left (by assumption) | exact And.left (And.right (by assumption)) | refine Below.drew ?_ | refine Below.allocE ?_ _ | refine Below.setCell ?_ (by dsimp only; omega) _))) | (repeat (first | with_reducible exact Below.refl _ _ | with_reducible assumption | with_reducible exact And.left (by assumption) | with_reducible exact And.left (And.right (by assumption)) | with_reducible refine Below.setCell ?_ (by dsimp only; omega) _ | with_reducible refine Below.allocE ?_ _ | with_reducible refine Below.drew ?_ | exact Below.refl _ _ | assumption | exact And.left (by assumption) | exact And.left (And.right (by assumption)) | refine Below.drew ?_ | refine Below.allocE ?_ _ | refine Below.setCell ?_ (by dsimp only; omega) _)))
    clear hK K
    have hHeld := hNew
    clear hNew
    (try dsimp only at hHeld)
    (try simp only [Act.put, List.setIfInBounds_toArray, List.set_cons_zero, List.set_cons_succ])
    refine wpAnyH_take (i := 6) (oi := { dst := some 30, op := Op.binOp BinOp.sub 3 (Operand.tmp 28) (Operand.tmp 29) 3, type := 3, pos := _, after := #[{ on := 4, ground := Ground.data }, { on := 5, ground := Ground.data }], guard := none }) (v := ?_) rfl (by kernel_rfl) (by kernel_rfl) (by kernel_rfl) (fun _ _ _ h => h) (Or.inl ⟨by rfl, ?_⟩) (by assumption) ?_
    rotate_left 1
    · (intro w hSw; (try dsimp only at hSw); go_simp; (try with_reducible rfl))
    (try simp only [Act.put, List.setIfInBounds_toArray, List.set_cons_zero, List.set_cons_succ])
    refine wpAnyH_take (i := 7) (oi := { dst := some 31, op := Op.binOp BinOp.geq 3 (Operand.tmp 25) (Operand.tmp 30) 3, type := 4, pos := _, after := #[{ on := 1, ground := Ground.data }, { on := 6, ground := Ground.data }], guard := none }) (v := ?_) rfl (by kernel_rfl) (by kernel_rfl) (by kernel_rfl) (fun _ _ _ h => h) (Or.inl ⟨by rfl, ?_⟩) (by assumption) ?_
    rotate_left 1
    · (intro w hSw; (try dsimp only at hSw); go_simp; (try with_reducible rfl))
    (try simp only [Act.put, List.setIfInBounds_toArray, List.set_cons_zero, List.set_cons_succ])
    refine wpAnyH_done (by kernel_rfl) ?_ _
    refine NoPanic.normal ?_
    obtain ⟨hA, q0, q1, q2, q3⟩ := hHeld
    have k8 := K8.out.ext hA
    have k9 := K9.out.ext hA
    have d80 := k8.c 0 _ rfl
    have d81 := k8.c 1 _ rfl
    have d82 := k8.c 2 _ rfl
    have d90 := k9.c 0 _ rfl
    have e80 := k8.frozen 0
    have e81 := k8.frozen 1
    have e82 := k8.frozen 2
    have e90 := k9.frozen 0
    simp only [List.getElem_toArray, List.getElem_cons_zero, List.getElem_cons_succ] at d80 d81 d82 d90
    go_wp2
    refine ⟨.tuple #[trv 0 (.slice none 0 0) (.slice none 0 0), .int .i64 16], by simp [results, Tryz.results110, go_sem, d80, d81, d82, d90, trv], ?_⟩
    have hBw := Below.ext hB0 hA
    have e : foldedS f l kn ts least most = (⟨0, [], []⟩, 16) := by unfold foldedS; rw [if_pos hsh]
    rw [e]
    exact own_none (by (repeat (first | with_reducible exact Below.refl _ _ | with_reducible assumption | with_reducible exact And.left (by assumption) | with_reducible exact And.left (And.right (by assumption)) | with_reducible refine Below.setCell ?_ (by dsimp only; omega) _ | with_reducible refine Below.allocE ?_ _ | with_reducible refine Below.drew ?_ | exact Below.refl _ _ | assumption | exact And.left (by assumption) | exact And.left (And.right (by assumption)) | refine Below.drew ?_ | refine Below.allocE ?_ _ | refine Below.setCell ?_ (by dsimp only; omega) _)))
  · refine wp_region_noPanic ?_
    refine wp_region_held_drew (S := fun w' => Below W0.heap.size W0 w' ∧ w'.cell? ⟨w.heap.size, 0, none⟩ = some (.int .i64 f) ∧ w'.cell? ⟨w.heap.size, 1, none⟩ = some (.slice A l.length c) ∧ w'.cell? ⟨w.heap.size, 2, none⟩ = some hv ∧ w'.cell? ⟨w.heap.size + 1 + 1 + 1 + 1, 0, none⟩ = some (.int .i64 (f - least))) (by kernel_rfl) ?_ (fun hHeld => ?_)
    · first | exact rfl | ((try dsimp only); ((repeat' apply And.intro) <;> first | go_keep | exact cell_ext (by go_keep) hbe | (refine Below.ext ?_ hbe; first | assumption | exact And.left (by assumption) | exact And.left (And.right (by assumption)) | (repeat (first | with_reducible exact Below.refl _ _ | with_reducible assumption | with_reducible exact And.left (by assumption) | with_reducible exact And.left (And.right (by assumption)) | with_reducible refine Below.setCell ?_ (by dsimp only; omega) _ | with_reducible refine Below.allocE ?_ _ | with_reducible refine Below.drew ?_ | exact Below.refl _ _ | assumption | exact And.left (by assumption) | exact And.left (And.right (by assumption)) | refine Below.drew ?_ | refine Below.allocE ?_ _ | refine Below.setCell ?_ (by dsimp only; omega) _))) | (repeat (first | with_reducible exact Below.refl _ _ | with_reducible assumption | with_reducible exact And.left (by assumption) | with_reducible exact And.left (And.right (by assumption)) | with_reducible refine Below.setCell ?_ (by dsimp only; omega) _ | with_reducible refine Below.allocE ?_ _ | with_reducible refine Below.drew ?_ | exact Below.refl _ _ | assumption | exact And.left (by assumption) | exact And.left (And.right (by assumption)) | refine Below.drew ?_ | refine Below.allocE ?_ _ | refine Below.setCell ?_ (by dsimp only; omega) _))))
    refine wpAnyH_take (i := 0) (oi := { dst := some 24, op := Op.fieldAddr 29 (Operand.tmp 10) 0, type := 0, pos := _, after := #[], guard := none }) (v := ?_) rfl (by kernel_rfl) (by kernel_rfl) (by kernel_rfl) (fun _ _ _ h => h) (Or.inl ⟨by rfl, ?_⟩) (by assumption) ?_
    rotate_left 1
    · (intro w hSw; (try dsimp only at hSw); go_simp; (try with_reducible rfl))
    (try simp only [Act.put, List.setIfInBounds_toArray, List.set_cons_zero, List.set_cons_succ])
    refine wpAnyH_take (i := 1) (oi := { dst := some 25, op := Op.load 3 (Operand.tmp 24), type := 3, pos := _, after := #[{ on := 0, ground := Ground.data }], guard := none }) (v := ?_) rfl (by kernel_rfl) (by kernel_rfl) (by kernel_rfl) (fun _ _ _ h => h) (Or.inl ⟨by rfl, ?_⟩) (by assumption) ?_
    rotate_left 1
    · (intro w hSw; (try dsimp only at hSw); go_simp; (try with_reducible rfl))
    (try simp only [Act.put, List.setIfInBounds_toArray, List.set_cons_zero, List.set_cons_succ])
    refine wpAnyH_take (i := 2) (oi := { dst := some 26, op := Op.fieldAddr 114 (Operand.tmp 4) 0, type := 0, pos := _, after := #[], guard := none }) (v := ?_) rfl (by kernel_rfl) (by kernel_rfl) (by kernel_rfl) (fun _ _ _ h => h) (Or.inl ⟨by rfl, ?_⟩) (by assumption) ?_
    rotate_left 1
    · (intro w hSw; (try dsimp only at hSw); go_simp; (try with_reducible rfl))
    (try simp only [Act.put, List.setIfInBounds_toArray, List.set_cons_zero, List.set_cons_succ])
    refine wpAnyH_take (i := 3) (oi := { dst := some 27, op := Op.load 29 (Operand.tmp 26), type := 29, pos := _, after := #[{ on := 2, ground := Ground.data }], guard := none }) (v := ?_) rfl (by kernel_rfl) (by kernel_rfl) (by kernel_rfl) (fun _ _ _ h => h) (Or.inl ⟨by rfl, ?_⟩) (by assumption) ?_
    rotate_left 1
    · (intro w hSw; (try dsimp only at hSw); go_simp; (try with_reducible rfl))
    (try simp only [Act.put, List.setIfInBounds_toArray, List.set_cons_zero, List.set_cons_succ])
    refine wpAnyH_take (i := 5) (oi := { dst := some 29, op := Op.move (Operand.tmp 3), type := 3, pos := _, after := #[], guard := none }) (v := ?_) rfl (by kernel_rfl) (by kernel_rfl) (by kernel_rfl) (fun _ _ _ h => h) (Or.inl ⟨by rfl, ?_⟩) (by assumption) ?_
    rotate_left 1
    · (intro w hSw; (try dsimp only at hSw); go_simp; (try with_reducible rfl))
    (try simp only [Act.put, List.setIfInBounds_toArray, List.set_cons_zero, List.set_cons_succ])
    refine wpAnyH_ready (rs := [4]) (by kernel_rfl) (by simp) ?_
    refine AllReadyH.cons (o := { dst := some 28, op := Op.call { callee := Callee.value (Operand.func 61), args := #[Operand.tmp 27], argTypes := #[29] }, type := 3, pos := _, after := #[{ on := 3, ground := Ground.data }], guard := none }) rfl (fun K hK => ?_) AllReadyH.nil
    (first | (first | (go_at_call 61; refine (end_c f A l.length c _ _ h1 h2).mono ?_; rintro e w' ⟨rfl, hbe⟩)) | (go_simp; (first | (go_at_call 61; refine (end_c f A l.length c _ _ h1 h2).mono ?_; rintro e w' ⟨rfl, hbe⟩))))
    refine hK.out _ _ ?_ (fun hNew => ?_)
    · (try dsimp only); ((repeat' apply And.intro) <;> first | go_keep | exact cell_ext (by go_keep) hbe | (refine Below.ext ?_ hbe; first | assumption | exact And.left (by assumption) | exact And.left (And.right (by assumption)) | (repeat (first | with_reducible exact Below.refl _ _ | with_reducible assumption | with_reducible exact And.left (by assumption) | with_reducible exact And.left (And.right (by assumption)) | with_reducible refine Below.setCell ?_ (by dsimp only; omega) _ | with_reducible refine Below.allocE ?_ _ | with_reducible refine Below.drew ?_ | exact Below.refl _ _ | assumption | exact And.left (by assumption) | exact And.left (And.right (by assumption)) | refine Below.drew ?_ | refine Below.allocE ?_ _ | refine Below.setCell ?_ (by dsimp only; omega) _))) | (repeat (first | with_reducible exact Below.refl _ _ | with_reducible assumption | with_reducible exact And.left (by assumption) | with_reducible exact And.left (And.right (by assumption)) | with_reducible refine Below.setCell ?_ (by dsimp only; omega) _ | with_reducible refine Below.allocE ?_ _ | with_reducible refine Below.drew ?_ | exact Below.refl _ _ | assumption | exact And.left (by assumption) | exact And.left (And.right (by assumption)) | refine Below.drew ?_ | refine Below.allocE ?_ _ | refine Below.setCell ?_ (by dsimp only; omega) _)))
    clear hK K
    have hHeld := hNew
    clear hNew
    (try dsimp only at hHeld)
    (try simp only [Act.put, List.setIfInBounds_toArray, List.set_cons_zero, List.set_cons_succ])
    refine wpAnyH_take (i := 6) (oi := { dst := some 30, op := Op.binOp BinOp.sub 3 (Operand.tmp 28) (Operand.tmp 29) 3, type := 3, pos := _, after := #[{ on := 4, ground := Ground.data }, { on := 5, ground := Ground.data }], guard := none }) (v := ?_) rfl (by kernel_rfl) (by kernel_rfl) (by kernel_rfl) (fun _ _ _ h => h) (Or.inl ⟨by rfl, ?_⟩) (by assumption) ?_
    rotate_left 1
    · (intro w hSw; (try dsimp only at hSw); go_simp; (try with_reducible rfl))
    (try simp only [Act.put, List.setIfInBounds_toArray, List.set_cons_zero, List.set_cons_succ])
    refine wpAnyH_take (i := 7) (oi := { dst := some 31, op := Op.binOp BinOp.geq 3 (Operand.tmp 25) (Operand.tmp 30) 3, type := 4, pos := _, after := #[{ on := 1, ground := Ground.data }, { on := 6, ground := Ground.data }], guard := none }) (v := ?_) rfl (by kernel_rfl) (by kernel_rfl) (by kernel_rfl) (fun _ _ _ h => h) (Or.inl ⟨by rfl, ?_⟩) (by assumption) ?_
    rotate_left 1
    · (intro w hSw; (try dsimp only at hSw); go_simp; (try with_reducible rfl))
    (try simp only [Act.put, List.setIfInBounds_toArray, List.set_cons_zero, List.set_cons_succ])
    refine wpAnyH_done (by kernel_rfl) ?_ _
    refine NoPanic.normal ?_
    obtain ⟨hA, q0, q1, q2, q3⟩ := hHeld
    go_wp2
    obtain ⟨W1, rfl⟩ : ∃ W1 : World, W1 = w' := ⟨_, rfl⟩
    refine wp_region_noPanic ?_
    refine wp_region_held_drew (S := fun w' => Below W1.heap.size W1 w' ∧ w'.cell? ⟨w.heap.size, 0, none⟩ = some (.int .i64 f) ∧ w'.cell? ⟨w.heap.size, 1, none⟩ = some (.slice A l.length c) ∧ w'.cell? ⟨w.heap.size, 2, none⟩ = some hv ∧ w'.cell? ⟨w.heap.size + 1 + 1 + 1 + 1, 0, none⟩ = some (.int .i64 (f - least))) (by kernel_rfl) ?_ (fun hHeld => ?_)
    · first | exact rfl | ((try dsimp only); ((repeat' apply And.intro) <;> first | go_keep | exact cell_ext (by go_keep) hbe | (refine Below.ext ?_ hbe; first | assumption | exact And.left (by assumption) | exact And.left (And.right (by assumption)) | (repeat (first | with_reducible exact Below.refl _ _ | with_reducible assumption | with_reducible exact And.left (by assumption) | with_reducible exact And.left (And.right (by assumption)) | with_reducible refine Below.setCell ?_ (by dsimp only; omega) _ | with_reducible refine Below.allocE ?_ _ | with_reducible refine Below.drew ?_ | exact Below.refl _ _ | assumption | exact And.left (by assumption) | exact And.left (And.right (by assumption)) | refine Below.drew ?_ | refine Below.allocE ?_ _ | refine Below.setCell ?_ (by dsimp only; omega) _))) | (repeat (first | with_reducible exact Below.refl _ _ | with_reducible assumption | with_reducible exact And.left (by assumption) | with_reducible exact And.left (And.right (by assumption)) | with_reducible refine Below.setCell ?_ (by dsimp only; omega) _ | with_reducible refine Below.allocE ?_ _ | with_reducible refine Below.drew ?_ | exact Below.refl _ _ | assumption | exact And.left (by assumption) | exact And.left (And.right (by assumption)) | refine Below.drew ?_ | refine Below.allocE ?_ _ | refine Below.setCell ?_ (by dsimp only; omega) _))))
    refine wpAnyH_take (i := 0) (oi := { dst := some 33, op := Op.fieldAddr 29 (Operand.tmp 10) 0, type := 0, pos := _, after := #[], guard := none }) (v := ?_) rfl (by kernel_rfl) (by kernel_rfl) (by kernel_rfl) (fun _ _ _ h => h) (Or.inl ⟨by rfl, ?_⟩) (by assumption) ?_
    rotate_left 1
    · (intro w hSw; (try dsimp only at hSw); go_simp; (try with_reducible rfl))
    (try simp only [Act.put, List.setIfInBounds_toArray, List.set_cons_zero, List.set_cons_succ])
    refine wpAnyH_take (i := 1) (oi := { dst := some 34, op := Op.load 3 (Operand.tmp 33), type := 3, pos := _, after := #[{ on := 0, ground := Ground.data }], guard := none }) (v := ?_) rfl (by kernel_rfl) (by kernel_rfl) (by kernel_rfl) (fun _ _ _ h => h) (Or.inl ⟨by rfl, ?_⟩) (by assumption) ?_
    rotate_left 1
    · (intro w hSw; (try dsimp only at hSw); go_simp; (try with_reducible rfl))
    (try simp only [Act.put, List.setIfInBounds_toArray, List.set_cons_zero, List.set_cons_succ])
    refine wpAnyH_take (i := 2) (oi := { dst := some 35, op := Op.fieldAddr 114 (Operand.tmp 4) 0, type := 0, pos := _, after := #[], guard := none }) (v := ?_) rfl (by kernel_rfl) (by kernel_rfl) (by kernel_rfl) (fun _ _ _ h => h) (Or.inl ⟨by rfl, ?_⟩) (by assumption) ?_
    rotate_left 1
    · (intro w hSw; (try dsimp only at hSw); go_simp; (try with_reducible rfl))
    (try simp only [Act.put, List.setIfInBounds_toArray, List.set_cons_zero, List.set_cons_succ])
    refine wpAnyH_take (i := 3) (oi := { dst := some 36, op := Op.load 29 (Operand.tmp 35), type := 29, pos := _, after := #[{ on := 2, ground := Ground.data }], guard := none }) (v := ?_) rfl (by kernel_rfl) (by kernel_rfl) (by kernel_rfl) (fun _ _ _ h => h) (Or.inl ⟨by rfl, ?_⟩) (by assumption) ?_
    rotate_left 1
    · (intro w hSw; (try dsimp only at hSw); go_simp; (try with_reducible rfl))
    (try simp only [Act.put, List.setIfInBounds_toArray, List.set_cons_zero, List.set_cons_succ])
    refine wpAnyH_take (i := 5) (oi := { dst := some 38, op := Op.move (Operand.tmp 3), type := 3, pos := _, after := #[], guard := none }) (v := ?_) rfl (by kernel_rfl) (by kernel_rfl) (by kernel_rfl) (fun _ _ _ h => h) (Or.inl ⟨by rfl, ?_⟩) (by assumption) ?_
    rotate_left 1
    · (intro w hSw; (try dsimp only at hSw); go_simp; (try with_reducible rfl))
    (try simp only [Act.put, List.setIfInBounds_toArray, List.set_cons_zero, List.set_cons_succ])
    refine wpAnyH_ready (rs := [4]) (by kernel_rfl) (by simp) ?_
    refine AllReadyH.cons (o := { dst := some 37, op := Op.call { callee := Callee.value (Operand.func 61), args := #[Operand.tmp 36], argTypes := #[29] }, type := 3, pos := _, after := #[{ on := 3, ground := Ground.data }], guard := none }) rfl (fun K hK => ?_) AllReadyH.nil
    (first | (first | (go_at_call 61; refine (end_c f A l.length c _ _ h1 h2).mono ?_; rintro e w' ⟨rfl, hbe⟩) | (go_at_call 142; refine (places_c _ _ _).mono ?_; rintro e w' ⟨rfl, rfl⟩)) | (go_simp; (first | (go_at_call 61; refine (end_c f A l.length c _ _ h1 h2).mono ?_; rintro e w' ⟨rfl, hbe⟩) | (go_at_call 142; refine (places_c _ _ _).mono ?_; rintro e w' ⟨rfl, rfl⟩))))
    refine hK.out _ _ ?_ (fun hNew => ?_)
    · (try dsimp only); ((repeat' apply And.intro) <;> first | go_keep | exact cell_ext (by go_keep) hbe | (refine Below.ext ?_ hbe; first | assumption | exact And.left (by assumption) | exact And.left (And.right (by assumption)) | (repeat (first | with_reducible exact Below.refl _ _ | with_reducible assumption | with_reducible exact And.left (by assumption) | with_reducible exact And.left (And.right (by assumption)) | with_reducible refine Below.setCell ?_ (by dsimp only; omega) _ | with_reducible refine Below.allocE ?_ _ | with_reducible refine Below.drew ?_ | exact Below.refl _ _ | assumption | exact And.left (by assumption) | exact And.left (And.right (by assumption)) | refine Below.drew ?_ | refine Below.allocE ?_ _ | refine Below.setCell ?_ (by dsimp only; omega) _))) | (repeat (first | with_reducible exact Below.refl _ _ | with_reducible assumption | with_reducible exact And.left (by assumption) | with_reducible exact And.left (And.right (by assumption)) | with_reducible refine Below.setCell ?_ (by dsimp only; omega) _ | with_reducible refine Below.allocE ?_ _ | with_reducible refine Below.drew ?_ | exact Below.refl _ _ | assumption | exact And.left (by assumption) | exact And.left (And.right (by assumption)) | refine Below.drew ?_ | refine Below.allocE ?_ _ | refine Below.setCell ?_ (by dsimp only; omega) _)))
    clear hK K
    have hHeld := hNew
    clear hNew
    (try dsimp only at hHeld)
    (try simp only [Act.put, List.setIfInBounds_toArray, List.set_cons_zero, List.set_cons_succ])
    refine wpAnyH_take (i := 6) (oi := { dst := some 39, op := Op.binOp BinOp.sub 3 (Operand.tmp 37) (Operand.tmp 38) 3, type := 3, pos := _, after := #[{ on := 4, ground := Ground.data }, { on := 5, ground := Ground.data }], guard := none }) (v := ?_) rfl (by kernel_rfl) (by kernel_rfl) (by kernel_rfl) (fun _ _ _ h => h) (Or.inl ⟨by rfl, ?_⟩) (by assumption) ?_
    rotate_left 1
    · (intro w hSw; (try dsimp only at hSw); go_simp; (try with_reducible rfl))
    (try simp only [Act.put, List.setIfInBounds_toArray, List.set_cons_zero, List.set_cons_succ])
    refine wpAnyH_ready (rs := [7]) (by kernel_rfl) (by simp) ?_
    refine AllReadyH.cons (o := { dst := some 40, op := Op.call { callee := Callee.value (Operand.func 142), args := #[Operand.tmp 34, Operand.tmp 39], argTypes := #[3, 3] }, type := 215, pos := _, after := #[{ on := 1, ground := Ground.data }, { on := 6, ground := Ground.data }, { on := 4, ground := Ground.chain }], guard := none }) rfl (fun K hK => ?_) AllReadyH.nil
    (first | (first | (go_at_call 61; refine (end_c f A l.length c _ _ h1 h2).mono ?_; rintro e w' ⟨rfl, hbe⟩) | (go_at_call 142; refine (places_c _ _ _).mono ?_; rintro e w' ⟨rfl, rfl⟩)) | (go_simp; (first | (go_at_call 61; refine (end_c f A l.length c _ _ h1 h2).mono ?_; rintro e w' ⟨rfl, hbe⟩) | (go_at_call 142; refine (places_c _ _ _).mono ?_; rintro e w' ⟨rfl, rfl⟩))))
    refine hK.out _ _ ?_ (fun hNew => ?_)
    · (try dsimp only); ((repeat' apply And.intro) <;> first | go_keep | exact cell_ext (by go_keep) hbe | (refine Below.ext ?_ hbe; first | assumption | exact And.left (by assumption) | exact And.left (And.right (by assumption)) | (repeat (first | with_reducible exact Below.refl _ _ | with_reducible assumption | with_reducible exact And.left (by assumption) | with_reducible exact And.left (And.right (by assumption)) | with_reducible refine Below.setCell ?_ (by dsimp only; omega) _ | with_reducible refine Below.allocE ?_ _ | with_reducible refine Below.drew ?_ | exact Below.refl _ _ | assumption | exact And.left (by assumption) | exact And.left (And.right (by assumption)) | refine Below.drew ?_ | refine Below.allocE ?_ _ | refine Below.setCell ?_ (by dsimp only; omega) _))) | (repeat (first | with_reducible exact Below.refl _ _ | with_reducible assumption | with_reducible exact And.left (by assumption) | with_reducible exact And.left (And.right (by assumption)) | with_reducible refine Below.setCell ?_ (by dsimp only; omega) _ | with_reducible refine Below.allocE ?_ _ | with_reducible refine Below.drew ?_ | exact Below.refl _ _ | assumption | exact And.left (by assumption) | exact And.left (And.right (by assumption)) | refine Below.drew ?_ | refine Below.allocE ?_ _ | refine Below.setCell ?_ (by dsimp only; omega) _)))
    clear hK K
    have hHeld := hNew
    clear hNew
    (try dsimp only at hHeld)
    (try simp only [Act.put, List.setIfInBounds_toArray, List.set_cons_zero, List.set_cons_succ])
    refine wpAnyH_done (by kernel_rfl) ?_ _
    refine NoPanic.normal ?_
    go_wp2
    obtain ⟨W3, rfl⟩ : ∃ W3 : World, W3 = w' := ⟨_, rfl⟩
    obtain ⟨hA2, _⟩ := hHeld
    have b1 := Blk.new W3 3 #[.int .i64 (f - least)]
    have b2 := Blk.new (W3.alloc (.cells #[.int .i64 (f - least)] 3)) 3 #[.int .i64 (f + (l.length : Int) - most)]
    have b1' := b1.alloc (.cells #[.int .i64 (f + (l.length : Int) - most)] 3)
    rw [World.size_alloc] at b2
    generalize hW : World.alloc (World.alloc W3 _) _ = W2 at *
    clear b1
    have hsz : W2.heap.size = W3.heap.size + 2 := by rw [← hW]; simp
    clear hW
    have hA3 : Below W0.heap.size W0 W2 := Below.ext hA hA2
    have B1 := Lib.hid b1'
    have B2 := Lib.hid b2
    clear b1' b2
    refine (wpIn_wide (n := 5)).1 ?_
    refine wpIn_rangeFunc_ownG rfl (by omega) (gf := 164) (lb := #[.pointer (some ⟨W3.heap.size, 0, none⟩), .pointer (some ⟨W3.heap.size + 1, 0, none⟩)]) rfl trivial (enters_of Tryz.func164 (by kernel_rfl) rfl)
      (places1_stops (5 - 1) (by omega) W3.heap.size (W3.heap.size + 1) (f - least) (f + l.length - most) (by omega) (by omega) W2 (by omega) (by omega) (B1.out.c 0 _ rfl) (B2.out.c 0 _ rfl)) ?hKt ?hKb (Below.refl _ _) (fun _ => rfl)
      (FoldI w W2.heap.size #[.int .i64 f, .slice A l.length c, hv, kv] (.slice A' ts.length c') (f - least) (runS f l kn ts) (fun p => badS (sumS f l kn ts p)))
      (FoldX w (fun p => badS (sumS f l kn ts p)))
      (foldI_own _ _ _ _ _ _ _ _ (by have := hB0.size; have := hA3.size; omega)) (fun c => foldX_own _ _ c _ (by have := hB0.size; have := hA3.size; omega))
      ?h0 ?a1 ?assign ?body ?done ?stop
    case hKt => exact fun h k => ⟨k.1.trans h.1, k.2.trans h.2⟩
    case hKb =>
      intro W l' o o' hl' ho hc _
      exact ⟨World.putObj_heap_other (by omega), World.putObj_heap_other (by omega)⟩
    case h0 =>
      exact ⟨⟨_, _, K10.out.ext hA3, World.ownsRow_nil _ _ _ _, World.ownsRow_nil _ _ _ _, Nat.le_refl _⟩, K4.out.ext hA3, K5.out.ext hA3, K8.out.ext hA3, K9.out.ext hA3, Below.ext hB0 hA3, rfl⟩
    case assign =>
      intro l' x W K hK
      gi_wp2
      exact hK
    case body =>
      rintro l' pre x W ⟨⟨vo, ho, hout⟩, k4, k5, k8, k9, hb, hbad⟩ hlt
      obtain ⟨x, hx0, hx1⟩ := x
      have c50 := k5.c 0 _ rfl
      have Hout := Lib.hid hout
      have K4' := Lib.hid k4
      have K5' := Lib.hid k5
      have K8' := Lib.hid k8
      have K9' := Lib.hid k9
      have Hbad := Lib.hid hbad
      have HT := Lib.hid ht
      have HV := Lib.hid h
      have HK := Lib.hid hk
      have HV1 := Lib.hid hv1
      have HTB := Lib.hid htb
      clear hout k4 k5 k8 k9 hbad ht h hk hv1 htb
      gi_wp2
      gi_loopw [12, 13, 44] (fun s q i wr => ∃ k : Nat, k ≤ ts.length ∧ i = .int .i64 k ∧ s = .int .i64 (sumS f l kn (ts.take k) x).1 ∧ q = .bool (sumS f l kn (ts.take k) x).2 ∧ Below W.heap.size W wr) (fun _ _ i _ => ts.length - (intOf i).toNat)
      case atStart => exact ⟨0, Nat.zero_le _, rfl, rfl, rfl, Below.refl _ _⟩
      case round =>
        obtain ⟨k, hk, rfl, rfl, rfl, hBr⟩ := hrel
        have hBw : Below w.heap.size w wr := hb.trans (hBr.mono hb.size)
        have k4r := K4'.out.ext hBr
        have r40 := k4r.c 0 _ rfl
        have r41 := k4r.c 1 _ rfl
        have r42 := k4r.c 2 _ rfl
        have r43 := k4r.c 3 _ rfl
        simp only [List.getElem_toArray, List.getElem_cons_zero, List.getElem_cons_succ] at r40 r41 r42 r43
        have hzz : w.heap.size + 1 + 1 + 1 + 1 < wr.heap.size := Nat.lt_of_lt_of_le Hout.out.1.lt hBr.size
        clear k4r
        have hz4 : w.heap.size < wr.heap.size := by omega
        have hz5 : w.heap.size + 1 < wr.heap.size := by omega
        by_cases hlt2 : k < ts.length
        · obtain ⟨ad, rfl, hb', hc1, hc2⟩ := (HT.out.below hBw).span_at hlt2
          have hsn := sumS_snoc f l kn ts x k hlt2
          have hbd := sumS_bound f l kn ts x HV1.out (fun y hy => (HTB.out y hy).1) k hk
          have htb := HTB.out _ (List.getElem_mem hlt2)
          have hat := atS_bound f l kn (x + ts[k].2) HV1.out
          have hmb := mul_bound htb.1 hat
          obtain ⟨a1, ha1⟩ : ∃ v, ts[k].1 = v := ⟨_, rfl⟩
          obtain ⟨a2, ha2⟩ : ∃ v, ts[k].2 = v := ⟨_, rfl⟩
          rw [ha1] at hc1 hsn htb hmb
          rw [ha2] at hc2 hsn htb hat hmb
          clear ha1 ha2
          obtain ⟨sv, hsv⟩ : ∃ v, (sumS f l kn (ts.take k) x).1 = v := ⟨_, rfl⟩
          obtain ⟨qv, hqv⟩ : ∃ v, (sumS f l kn (ts.take k) x).2 = v := ⟨_, rfl⟩
          obtain ⟨nv, hnv⟩ : ∃ v, (atS f l kn (x + a2)).1 = v := ⟨_, rfl⟩
          obtain ⟨iv, hiv⟩ : ∃ v, (atS f l kn (x + a2)).2 = v := ⟨_, rfl⟩
          rw [hsv] at hsn hbd
          rw [hqv] at hsn
          rw [hnv] at hsn hat hmb
          rw [hiv] at hsn
          rw [hsv, hqv]
          have HSN := Lib.hid hsn
          have HNV := Lib.hid hnv
          have HIV := Lib.hid hiv
          clear hsn hnv hiv hsv hqv
          obtain ⟨⟨t1, t2⟩, t3, t4⟩ := htb
          obtain ⟨s1, s2⟩ := hbd
          obtain ⟨n1, n2⟩ := hat
          obtain ⟨m1', m2'⟩ := hmb
          have hkk : (k : Int) * 107374182400000 ≤ 4096 * 107374182400000 := by omega
          have hBa : Below w.heap.size w (wr.alloc (.cells #[.int .i64 a1, .int .i64 a2] 183)) := Below.allocE hBw _
          have hx0 := (Blk.new wr 183 #[.int .i64 a1, .int .i64 a2]).c 0 (.int .i64 a1) rfl
          have Hx0 := Lib.hid hx0
          clear hx0
          cases qv
          all_goals
            gi_wp2_with fail
            refine ⟨trivial, ?_⟩
            refine (CallsIn.inRound l' ((callsIn_wide (n := 2)).2 (at_c f (x + a2) (.slice A l.length c) hv kv l kn _ ((HV.out.below hBa).more hBa.size) ((HK.out.below hBa).more hBa.size) hkl (by omega) (by omega) (by omega) (by omega)))).mono ?_
            rintro e w' ⟨rfl, hbe⟩
            rw [HNV.out, HIV.out]
            have z0 := cell_ext Hx0.out hbe
            have hBw' : Below W.heap.size W w' := Below.ext (Below.allocE hBr _) hbe
            gi_wp2
            go_roundw
            case rel => exact ⟨k + 1, by omega, by go_num, by rw [HSN.out], by rw [HSN.out]; rfl, hBw'⟩
            case measure => simp [intOf]; omega
        · obtain rfl : k = ts.length := by omega
          rw [List.take_length]
          obtain ⟨sv, hsv⟩ : ∃ v, (sumS f l kn ts x).1 = v := ⟨_, rfl⟩
          obtain ⟨qv, hqv⟩ : ∃ v, (sumS f l kn ts x).2 = v := ⟨_, rfl⟩
          rw [hsv, hqv]
          have HSV := Lib.hid hsv
          have HQV := Lib.hid hqv
          clear hsv hqv
          have hout2 : OutAt wr W2.heap.size (w.heap.size + 1 + 1 + 1 + 1) (f - least) (runS f l kn ts (pre.map (·.1))).1 (runS f l kn ts (pre.map (·.1))).2 vo ho :=
            ⟨Hout.out.1.ext hBr, own_ext Hout.out.2.1 hBr, own_ext Hout.out.2.2.1 hBr, Nat.le_trans Hout.out.2.2.2 hBr.size⟩
          have k8r := K8'.out.ext hBr
          have k9r := K9'.out.ext hBr
          have hl1 := runS_len f l kn ts (pre.map (·.1))
          rw [List.length_map] at hl1
          have hl2 : (runS f l kn ts (pre.map (·.1))).1.length ≤ 1048576 := by omega
          have hl3 : (runS f l kn ts (pre.map (·.1))).2.length ≤ 1048576 := by omega
          have HOUT2 := Lib.hid hout2
          have HL2 := Lib.hid hl2
          have HL3 := Lib.hid hl3
          have K8R := Lib.hid k8r
          have K9R := Lib.hid k9r
          clear hout2 k8r k9r hl1 hl2 hl3
          by_cases hbd : badS (sumS f l kn ts x) = true
          · obtain ⟨rfl, hrd⟩ : qv = true ∧ readingS sv ≠ 0 := by
              unfold badS at hbd
              rw [HSV.out, HQV.out] at hbd
              simpa using hbd
            have HBD := Lib.hid hbd
            clear hbd
            obtain ⟨rv, hrv⟩ : ∃ v, readingS sv = v := ⟨_, rfl⟩
            rw [hrv] at hrd
            have HRV := Lib.hid hrv
            clear hrv
            have hrb : (rv != 0) = true := by simpa using hrd
            have hw8 := K8R.out.frozen 0
            have hw81 := K8R.out.frozen 1
            have hw82 := K8R.out.frozen 2
            have hw9 := K9R.out.frozen 0
            have hd8 := K8R.out.c 0 _ rfl
            have hd81 := K8R.out.c 1 _ rfl
            have hd82 := K8R.out.c 2 _ rfl
            have hd9 := K9R.out.c 0 _ rfl
            simp only [List.getElem_toArray, List.getElem_cons_zero, List.getElem_cons_succ] at hd8 hd81 hd82 hd9
            gi_wp2_with fail
            refine ⟨trivial, ?_⟩
            refine (CallsIn.inRound l' ((callsIn_wide (n := 2)).2 (checkReading_c _ _))).mono ?_
            rintro e w3 ⟨rfl, rfl⟩
            rw [HRV.out]
            gi_wp2
            have ht : Touch (fun k => k = w.heap.size + 1 + 1 ∨ k = w.heap.size + 1 + 1 + 1) wr ((((wr.setCell ⟨w.heap.size + 1 + 1, 0, none⟩ (.int .i64 0)).setCell ⟨w.heap.size + 1 + 1, 1, none⟩ (.slice none 0 0)).setCell ⟨w.heap.size + 1 + 1, 2, none⟩ (.slice none 0 0)).setCell ⟨w.heap.size + 1 + 1 + 1, 0, none⟩ (.int .i64 4)) :=
              (((Touch.setCell (.inl rfl) _).trans (Touch.setCell (.inl rfl) _)).trans (Touch.setCell (.inl rfl) _)).trans (Touch.setCell (.inr rfl) _)
            refine ⟨(keepsFrom_touch (s := fun _ => False) _ (Touch.of_below hBr) (fun _ _ h => h.elim)).trans (keepsFrom_touch _ ht ?_), rfl, ?_, ?_, ?_, ?_⟩
            · rintro k o (rfl | rfl) hko
              · have hb := K8R.out
                unfold Blk at hb
                rw [hb] at hko
                cases hko
                rfl
              · have hb := K9R.out
                unfold Blk at hb
                rw [hb] at hko
                cases hko
                rfl
            · exact ((((K8R.out.set_ 0 _).set_ 1 _).set_ 2 _).far (p := ⟨w.heap.size + 1 + 1 + 1, 0, none⟩) (by dsimp only; omega) _)
            · exact ((((K9R.out.far (p := ⟨w.heap.size + 1 + 1, 0, none⟩) (by dsimp only; omega) _).far (p := ⟨w.heap.size + 1 + 1, 1, none⟩) (by dsimp only; omega) _).far (p := ⟨w.heap.size + 1 + 1, 2, none⟩) (by dsimp only; omega) _).set_ 0 _)
            · exact hBw.trans (ht.below hBw.size (fun k hk => by rintro (rfl | rfl) <;> omega))
            · rw [show ((pre ++ [⟨x, hx0, hx1⟩] : List Pl).map (·.1)) = pre.map (·.1) ++ [x] by rw [List.map_append]; rfl, List.any_append]
              simp [HBD.out]
          · have fin : ∀ w3 vo' ho', OutAt w3 W2.heap.size (w.heap.size + 1 + 1 + 1 + 1) (f - least) (addS (runS f l kn ts (pre.map (·.1))) (sumS f l kn ts x)).1 (addS (runS f l kn ts (pre.map (·.1))) (sumS f l kn ts x)).2 vo' ho' → Touch (outSet (w.heap.size + 1 + 1 + 1 + 1) vo ho) wr w3 →
                KeepsFrom W2.heap.size W w3 ∧ KeepTwo W3.heap.size (W3.heap.size + 1) W w3 ∧ FoldI w W2.heap.size #[.int .i64 f, .slice A l.length c, hv, kv] (.slice A' ts.length c') (f - least) (runS f l kn ts) (fun p => badS (sumS f l kn ts p)) (pre ++ [⟨x, hx0, hx1⟩]) w3 := by
              intro w3 vo' ho' ho3 ht3
              have hrow : ∀ k, k < W2.heap.size → k ≠ w.heap.size + 1 + 1 + 1 + 1 → ¬ outSet (w.heap.size + 1 + 1 + 1 + 1) vo ho k := by
                rintro k hk hkg (h | h | h)
                · exact hkg h
                · have := own_base HOUT2.out.2.1 h; omega
                · have := own_base HOUT2.out.2.2.1 h; omega
              have hgl := K10.out.lt
              have hz1 := hA3.size
              have hz2 := Hout.out.2.2.2
              have hz3 := hBr.size
              have hg1 : w.heap.size + 1 + 1 + 1 + 1 ≠ W3.heap.size := Blk.ne_ (K10.out.ext hA3) B1.out (by decide)
              have hg2 : w.heap.size + 1 + 1 + 1 + 1 ≠ W3.heap.size + 1 := Blk.ne_ (K10.out.ext hA3) B2.out (by decide)
              refine ⟨?_, ⟨?_, ?_⟩, ⟨vo', ho', ?_⟩, ?_, ?_, ?_, ?_, ?_, ?_⟩
              · refine (keepsFrom_touch (s := fun _ => False) _ (Touch.of_below hBr) (fun _ _ h => h.elim)).trans (keepsFrom_touch _ ht3 ?_)
                rintro k o (h | h | h) hko
                · have hb := HOUT2.out.1
                  subst h
                  unfold Blk at hb
                  rw [hb] at hko
                  cases hko
                  rfl
                · exact own_cells HOUT2.out.2.1 h hko
                · exact own_cells HOUT2.out.2.2.1 h hko
              · exact (ht3.block _ (by omega) (hrow _ (by omega) hg1.symm)).trans (hBr.block _ (by omega))
              · exact (ht3.block _ (by omega) (hrow _ (by omega) hg2.symm)).trans (hBr.block _ (by omega))
              · rw [show ((pre ++ [⟨x, hx0, hx1⟩] : List Pl).map (·.1)) = pre.map (·.1) ++ [x] by rw [List.map_append]; rfl, runS_snoc]
                exact ho3
              · exact (K4'.out.ext hBr).touch ht3 (hrow _ (by omega) (by omega))
              · exact (K5'.out.ext hBr).touch ht3 (hrow _ (by omega) (by omega))
              · exact K8R.out.touch ht3 (hrow _ (by omega) (by omega))
              · exact K9R.out.touch ht3 (hrow _ (by omega) (by omega))
              · exact hBw.trans (ht3.below hBw.size (fun k hk => hrow k (by omega) (by omega)))
              · rw [show ((pre ++ [⟨x, hx0, hx1⟩] : List Pl).map (·.1)) = pre.map (·.1) ++ [x] by rw [List.map_append]; rfl, List.any_append, Hbad.out]
                simpa using hbd
            have FIN := Lib.hid fin
            clear fin
            cases qv
            · gi_wp2_with fail
              refine ⟨trivial, ?_⟩
              gi_wp2_with fail
              refine ⟨trivial, ?_⟩
              refine (CallsIn.inRound l' ((callsIn_wide (n := 2)).2 (add_c _ _ _ _ _ _ _ _ _ _ HOUT2.out HL2.out HL3.out))).mono ?_
              rintro e w3 ⟨rfl, vo', ho', hout3, htch⟩
              have HO3 := Lib.hid hout3
              have HT3 := Lib.hid htch
              clear hout3 htch
              gi_wp2
              refine FIN.out w3 vo' ho' ?_ HT3.out
              have e : addS (runS f l kn ts (pre.map (·.1))) (sumS f l kn ts x) = ((runS f l kn ts (pre.map (·.1))).1 ++ [0], holesAdd (runS f l kn ts (pre.map (·.1))).2 (runS f l kn ts (pre.map (·.1))).1.length) := by
                unfold addS; rw [HQV.out]; rfl
              rw [e]
              exact HO3.out
            · have hrd : readingS sv = 0 := by
                unfold badS at hbd
                rw [HSV.out, HQV.out] at hbd
                simpa using hbd
              gi_wp2_with fail
              refine ⟨trivial, ?_⟩
              refine (CallsIn.inRound l' ((callsIn_wide (n := 2)).2 (checkReading_c _ _))).mono ?_
              rintro e w3 ⟨rfl, rfl⟩
              rw [hrd]
              clear hrd
              gi_wp2_with fail
              refine ⟨trivial, ?_⟩
              refine (CallsIn.inRound l' ((callsIn_wide (n := 2)).2 (add_c _ _ _ _ _ _ _ _ _ _ HOUT2.out HL2.out HL3.out))).mono ?_
              rintro e w3 ⟨rfl, vo', ho', hout3, htch⟩
              have HO3 := Lib.hid hout3
              have HT3 := Lib.hid htch
              clear hout3 htch
              gi_wp2
              refine FIN.out w3 vo' ho' ?_ HT3.out
              have e : addS (runS f l kn ts (pre.map (·.1))) (sumS f l kn ts x) = ((runS f l kn ts (pre.map (·.1))).1 ++ [sv], (runS f l kn ts (pre.map (·.1))).2) := by
                unfold addS; rw [HQV.out, HSV.out]; rfl
              rw [e]
              exact HO3.out
    case done =>
      rintro D xs W hD rfl ⟨⟨vo, ho, hout⟩, k4, k5, k8, k9, hb, hbad⟩ hK
      rw [uptoP_val _ _ (by omega) (by omega)] at hout hbad
      obtain ⟨k10, ow1, ow2, hsz2⟩ := hout
      obtain ⟨A1, cc1, rfl, hq1, hq2⟩ := own_form ow1
      obtain ⟨A2, cc2, rfl, hq3, hq4⟩ := own_form ow2
      have hd100 := k10.c 0 _ rfl
      have hd101 := k10.c 1 _ rfl
      have hd102 := k10.c 2 _ rfl
      have hw8 := k8.frozen 0
      have hw81 := k8.frozen 1
      have hw82 := k8.frozen 2
      have hw9 := k9.frozen 0
      have hd8 := k8.c 0 _ rfl
      have hd81 := k8.c 1 _ rfl
      have hd82 := k8.c 2 _ rfl
      have hd9 := k9.c 0 _ rfl
      simp only [List.getElem_toArray, List.getElem_cons_zero, List.getElem_cons_succ] at hd8 hd81 hd82 hd9 hd100 hd101 hd102
      have K8R := Lib.hid k8
      have K9R := Lib.hid k9
      have HK' := Lib.hid hK
      have HB := Lib.hid hbad
      have O1 := Lib.hid ow1
      have O2 := Lib.hid ow2
      clear k8 k9 hK k4 k5 k10 hbad ow1 ow2
      go_wp2
      obtain ⟨xs, hxs⟩ : ∃ xs, runS f l kn ts (upto (f - least) (f + l.length - most - (f - least)).toNat) = xs := ⟨_, rfl⟩
      rw [hxs] at O1 O2
      rw [hxs]
      have ht : Touch (fun k => k = w.heap.size + 1 + 1 ∨ k = w.heap.size + 1 + 1 + 1) W ((((W.setCell ⟨w.heap.size + 1 + 1, 0, none⟩ (.int .i64 (f - least))).setCell ⟨w.heap.size + 1 + 1, 1, none⟩ (.slice A1 xs.1.length cc1)).setCell ⟨w.heap.size + 1 + 1, 2, none⟩ (.slice A2 xs.2.length cc2)).setCell ⟨w.heap.size + 1 + 1 + 1, 0, none⟩ (.int .i64 0)) :=
        (((Touch.setCell (.inl rfl) _).trans (Touch.setCell (.inl rfl) _)).trans (Touch.setCell (.inl rfl) _)).trans (Touch.setCell (.inr rfl) _)
      have j8 := ((((K8R.out.set_ 0 (.int .i64 (f - least))).set_ 1 (.slice A1 xs.1.length cc1)).set_ 2 (.slice A2 xs.2.length cc2)).far (p := ⟨w.heap.size + 1 + 1 + 1, 0, none⟩) (by dsimp only; omega) (.int .i64 0))
      have j9 := ((((K9R.out.far (p := ⟨w.heap.size + 1 + 1, 0, none⟩) (by dsimp only; omega) (.int .i64 (f - least))).far (p := ⟨w.heap.size + 1 + 1, 1, none⟩) (by dsimp only; omega) (.slice A1 xs.1.length cc1)).far (p := ⟨w.heap.size + 1 + 1, 2, none⟩) (by dsimp only; omega) (.slice A2 xs.2.length cc2)).set_ 0 (.int .i64 0))
      have hK4 := ((((KeepsOthers.setCell W ⟨w.heap.size + 1 + 1, 0, none⟩ (.int .i64 (f - least))).trans (KeepsOthers.setCell _ ⟨w.heap.size + 1 + 1, 1, none⟩ (.slice A1 xs.1.length cc1))).trans (KeepsOthers.setCell _ ⟨w.heap.size + 1 + 1, 2, none⟩ (.slice A2 xs.2.length cc2))).trans (KeepsOthers.setCell _ ⟨w.heap.size + 1 + 1 + 1, 0, none⟩ (.int .i64 0))).same D _ HK'.out rfl
      have o1 := O1.out
      have o2 := O2.out
      have o1' := own_setCell (own_setCell (own_setCell (own_setCell o1 (a := ⟨w.heap.size + 1 + 1, 0, none⟩) (own_ne_blk o1 K8R.out (by decide)) (.int .i64 (f - least))) (a := ⟨w.heap.size + 1 + 1, 1, none⟩) (own_ne_blk o1 K8R.out (by decide)) (.slice A1 xs.1.length cc1)) (a := ⟨w.heap.size + 1 + 1, 2, none⟩) (own_ne_blk o1 K8R.out (by decide)) (.slice A2 xs.2.length cc2)) (a := ⟨w.heap.size + 1 + 1 + 1, 0, none⟩) (own_ne_blk o1 K9R.out (by decide)) (.int .i64 0)
      have o2' := own_setCell (own_setCell (own_setCell (own_setCell o2 (a := ⟨w.heap.size + 1 + 1, 0, none⟩) (own_ne_blk o2 K8R.out (by decide)) (.int .i64 (f - least))) (a := ⟨w.heap.size + 1 + 1, 1, none⟩) (own_ne_blk o2 K8R.out (by decide)) (.slice A1 xs.1.length cc1)) (a := ⟨w.heap.size + 1 + 1, 2, none⟩) (own_ne_blk o2 K8R.out (by decide)) (.slice A2 xs.2.length cc2)) (a := ⟨w.heap.size + 1 + 1 + 1, 0, none⟩) (own_ne_blk o2 K9R.out (by decide)) (.int .i64 0)
      have hb4 := hb.trans (ht.below hb.size (fun k hk => by rintro (rfl | rfl) <;> omega))
      refine ⟨by simp, .inl ⟨_, _, rfl, run_takeDeferred hK4, ?_⟩⟩
      generalize World.setCell (World.setCell (World.setCell (World.setCell W _ _) _ _) _ _) _ _ = W4 at *
      have hrow : ∀ r, some D = some r → ∃ o : Obj, W4.heap[r]? = some o ∧ o.isCells = false := fun r e => by cases e; exact ⟨_, hK4, rfl⟩
      have i8 := blk_row j8 (grownBy_putObj' W4 D (.deferred none)) hrow
      have i9 := blk_row j9 (grownBy_putObj' W4 D (.deferred none)) hrow
      have i1 := own_row o1' (grownBy_putObj' W4 D (.deferred none)) hrow
      have i2 := own_row o2' (grownBy_putObj' W4 D (.deferred none)) hrow
      have hz6 := hB0.size
      have hz7 := hA3.size
      have hb5 : Below w.heap.size w (W4.putObj D (.deferred none)) := hb4.grown (grownBy_putObj' W4 D (.deferred none)) hb4.size (fun r e => by cases e; omega)
      have hr80 := i8.c 0 (.int .i64 (f - least)) rfl
      have hr81 := i8.c 1 (.slice A1 xs.1.length cc1) rfl
      have hr82 := i8.c 2 (.slice A2 xs.2.length cc2) rfl
      have hr90 := i9.c 0 (.int .i64 0) rfl
      refine ⟨.tuple #[trv (f - least) (.slice A1 xs.1.length cc1) (.slice A2 xs.2.length cc2), .int .i64 0], by simp [results, Tryz.results110, go_sem, hr80, hr81, hr82, hr90, trv], ?_⟩
      have e : foldedS f l kn ts least most = (⟨f - least, xs.1, xs.2⟩, 0) := by unfold foldedS; rw [if_neg (by omega), if_neg (by rw [HB.out]; decide), hxs]
      rw [e]
      exact ⟨_, _, _, (by omega), rfl, i1, i2, hb5⟩
    case stop =>
      rintro D c0 pre W hD hpre ⟨rfl, k8, k9, hb, hbad⟩ hK
      refine (wpIn_wide (n := 5)).2 ?_
      have K8R := Lib.hid k8
      have K9R := Lib.hid k9
      have HK' := Lib.hid hK
      have HB := Lib.hid hbad
      clear k8 k9 hK hbad
      go_wp2
      refine ⟨by simp, .inl ⟨_, _, rfl, run_takeDeferred HK'.out, ?_⟩⟩
      have hrow : ∀ r, some D = some r → ∃ o : Obj, W.heap[r]? = some o ∧ o.isCells = false := fun r e => by cases e; exact ⟨_, HK'.out, rfl⟩
      have i8 := blk_row K8R.out (grownBy_putObj' W D (.deferred none)) hrow
      have i9 := blk_row K9R.out (grownBy_putObj' W D (.deferred none)) hrow
      have hz6 := hB0.size
      have hz7 := hA3.size
      have hb5 : Below w.heap.size w (W.putObj D (.deferred none)) := hb.grown (grownBy_putObj' W D (.deferred none)) hb.size (fun r e => by cases e; omega)
      have hr80 := i8.c 0 (.int .i64 0) rfl
      have hr81 := i8.c 1 (.slice none 0 0) rfl
      have hr82 := i8.c 2 (.slice none 0 0) rfl
      have hr90 := i9.c 0 (.int .i64 4) rfl
      refine ⟨.tuple #[trv 0 (.slice none 0 0) (.slice none 0 0), .int .i64 4], by simp [results, Tryz.results110, go_sem, hr80, hr81, hr82, hr90, trv], ?_⟩
      have hany : (upto (f - least) (f + l.length - most - (f - least)).toNat).any (fun p => badS (sumS f l kn ts p)) = true := by
        rw [← uptoP_val _ _ (by omega) (by omega)]
        obtain ⟨tl, htl⟩ := hpre
        rw [← htl, List.map_append, List.any_append, HB.out]
        rfl
      have e : foldedS f l kn ts least most = (⟨0, [], []⟩, 4) := by unfold foldedS; rw [if_neg (by omega), if_pos hany]
      rw [e]
      exact own_none hb5

theorem folded_c (f least most : Int) (vv hv kv tv : Value) (l : List Int) (kn : List Bool) (ts : List (Int × Int)) (w : World)
    (h : Rd w w.heap.size 1 vv l.length (ints l)) (hk : Rd w w.heap.size 1 kv kn.length (bools kn)) (hkl : kn.length = l.length) (ht : Rd w w.heap.size 2 tv ts.length (terms ts))
    (f0 : 0 ≤ f) (f1 : f ≤ 100000000) (hl : l.length ≤ 4096) (l0 : -100000 ≤ least) (l1 : least ≤ 100000) (m0 : -100000 ≤ most) (m1 : most ≤ 100000)
    (hv1 : ∀ x ∈ l, -1073741824 ≤ x ∧ x ≤ 1073741824) (htn : ts.length ≤ 4096) (htb : ∀ x ∈ ts, (-100000 ≤ x.1 ∧ x.1 ≤ 100000) ∧ (-100000 ≤ x.2 ∧ x.2 ≤ 100000)) :
    Calls Tryz.prog 110 #[rdv f vv hv kv, tv, .int .i64 least, .int .i64 most] w (TrPost w (foldedS f l kn ts least most)) :=
  (folded_own f least most vv hv kv tv l kn ts w h hk hkl ht f0 f1 hl l0 l1 m0 m1 hv1 htn htb).mono fun _ _ h => h.tr

end Go.Proofs.YtbpffadffbgloaaGreatDoor
