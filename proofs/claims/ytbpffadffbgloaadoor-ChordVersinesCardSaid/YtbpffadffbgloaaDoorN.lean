/- Contract: Sum. -/
import Derived.Test.YtbpffadffbgloaaDoorM
set_option linter.unusedVariables false
set_option linter.unusedSimpArgs false
namespace Go.Proofs.YtbpffadffbgloaaDoor
open Go.RowKit Go.Shelf

theorem blk4 {W : World} {g : Nat} {t : TypeId} {a b c d : Value} (h : Blk W g t #[a, b, c, d]) (x y z u : Value) : Blk ((((W.setCell ⟨g, 0, none⟩ x).setCell ⟨g, 1, none⟩ y).setCell ⟨g, 2, none⟩ z).setCell ⟨g, 3, none⟩ u) g t #[x, y, z, u] := by
  simpa using (((h.set_ 0 x).set_ 1 y).set_ 2 z).set_ 3 u
theorem far4 {W : World} {g g' : Nat} {t : TypeId} {cs : Array Value} (h : Blk W g' t cs) (hne : g' ≠ g) (x y z u : Value) : Blk ((((W.setCell ⟨g, 0, none⟩ x).setCell ⟨g, 1, none⟩ y).setCell ⟨g, 2, none⟩ z).setCell ⟨g, 3, none⟩ u) g' t cs :=
  (((h.far hne x).far hne y).far hne z).far hne u

/-- The sums at all places, with what is known. -/
def sumsS (s t : Tr) : List (Int × Bool) := (List.range s.vals.length).map fun i => (s.vals[i]?.getD 0 + t.vals[i]?.getD 0, (knS s.vals.length s.holes)[i]?.getD false && (knS t.vals.length t.holes)[i]?.getD false)
def addAll (l : List (Int × Bool)) : List Int × List (Int × Int) := l.foldl addS ([], [])
def SumS (s t : Tr) : Tr × Int :=
  let e := firstS [traceS s, traceS t, whenS (!alikeS s t) 2]
  if e ≠ 0 then (⟨0, [], []⟩, e) else if (sumsS s t).any badS then (⟨0, [], []⟩, 4) else (⟨s.first, (addAll (sumsS s t)).1, (addAll (sumsS s t)).2⟩, 0)

theorem sumsS_len (s t : Tr) : (sumsS s t).length = s.vals.length := by simp [sumsS]
theorem addAll_snoc (l : List (Int × Bool)) (x : Int × Bool) : addAll (l ++ [x]) = addS (addAll l) x := by simp [addAll]
theorem addAll_len (l : List (Int × Bool)) : (addAll l).1.length = l.length ∧ (addAll l).2.length ≤ l.length := by
  suffices h : ∀ m : List (Int × Bool), (addAll m.reverse).1.length = m.length ∧ (addAll m.reverse).2.length ≤ m.length by
    have := h l.reverse
    rwa [List.reverse_reverse, List.length_reverse] at this
  intro m
  induction m with
  | nil => exact ⟨rfl, Nat.le_refl _⟩
  | cons q m ih =>
    rw [List.reverse_cons, addAll_snoc]
    refine ⟨by simp [addS, ih.1], ?_⟩
    unfold addS
    dsimp only
    split
    · simp; omega
    · have := holesAdd_len (addAll m.reverse).2 (addAll m.reverse).1.length
      simp; omega
theorem sumsS_at (s t : Tr) (k : Nat) (h : k < s.vals.length) (h' : k < t.vals.length) : (sumsS s t)[k]? = some (s.vals[k] + t.vals[k], (knS s.vals.length s.holes)[k]?.getD false && (knS t.vals.length t.holes)[k]?.getD false) := by
  simp [sumsS, h, h']

set_option maxRecDepth 20000 in
set_option maxHeartbeats 1000000 in
theorem Sum_c (vv hv vv' hv' : Value) (s t : Tr) (w : World) (h : RdT w w.heap.size vv hv s) (h' : RdT w w.heap.size vv' hv' t) :
    Calls Tryd.prog 59 #[trv s.first vv hv, trv t.first vv' hv'] w (TrPost w (SumS s t)) := by
  obtain ⟨A, c, rfl, h1, h2⟩ := h.1.slice
  obtain ⟨A', c', rfl, h1', h2'⟩ := h.2.slice
  obtain ⟨D, d, rfl, j1, j2⟩ := h'.1.slice
  obtain ⟨D', d', rfl, j1', j2'⟩ := h'.2.slice
  unfold trv
  go_enter Tryd.func59, Tryd.ntmps59
  go_wp2
  obtain ⟨k1, k2, k3, hB⟩ := alloc3 w #[.int .i64 s.first, .slice A s.vals.length c, .slice A' s.holes.length c'] #[.int .i64 t.first, .slice D t.vals.length d, .slice D' t.holes.length d'] #[.int .i64 0, .slice none 0 0, .slice none 0 0] 30 30 30
  generalize World.alloc (World.alloc (World.alloc w _) _) _ = W at *
  have c0 := k1.c 0 _ rfl
  have c1 := k1.c 1 _ rfl
  have c2 := k1.c 2 _ rfl
  have d0 := k2.c 0 _ rfl
  have d1 := k2.c 1 _ rfl
  have d2 := k2.c 2 _ rfl
  have hlt := k3.lt
  have hs0 := hB.size
  have hb : RdT W.drew W.drew.heap.size (.slice A s.vals.length c) (.slice A' s.holes.length c') s := (h.below hB).more hB.size
  have hb' : RdT W.drew W.drew.heap.size (.slice D t.vals.length d) (.slice D' t.holes.length d') t := (h'.below hB).more hB.size
  have n1 : w.heap.size ≠ w.heap.size + 1 + 1 := by omega
  have n2 : w.heap.size + 1 ≠ w.heap.size + 1 + 1 := by omega
  have n3 := n1.symm
  have n4 := n2.symm
  refine wp_region_noPanic ?_
  refine wp_region_held_drew (S := fun w' => Below w.heap.size w w' ∧ w'.cell? ⟨w.heap.size, 0, none⟩ = some (.int .i64 s.first) ∧ w'.cell? ⟨w.heap.size, 1, none⟩ = some (.slice A s.vals.length c) ∧ w'.cell? ⟨w.heap.size, 2, none⟩ = some (.slice A' s.holes.length c') ∧ w'.cell? ⟨w.heap.size + 1, 0, none⟩ = some (.int .i64 t.first) ∧ w'.cell? ⟨w.heap.size + 1, 1, none⟩ = some (.slice D t.vals.length d) ∧ w'.cell? ⟨w.heap.size + 1, 2, none⟩ = some (.slice D' t.holes.length d')) (by kernel_rfl) ?_ (fun hHeld => ?_)
  · first | exact rfl | ((try dsimp only); ((repeat' apply And.intro) <;> first | go_keep | exact cell_ext (by go_keep) hbe | (refine Below.ext ?_ hbe; first | assumption | exact And.left (by assumption) | exact And.left (And.right (by assumption)) | (repeat (first | with_reducible exact Below.refl _ _ | with_reducible assumption | with_reducible exact And.left (by assumption) | with_reducible exact And.left (And.right (by assumption)) | with_reducible refine Below.setCell ?_ (by dsimp only; omega) _ | with_reducible refine Below.allocE ?_ _ | with_reducible refine Below.drew ?_ | exact Below.refl _ _ | assumption | exact And.left (by assumption) | exact And.left (And.right (by assumption)) | refine Below.drew ?_ | refine Below.allocE ?_ _ | refine Below.setCell ?_ (by dsimp only; omega) _))) | exact cell_ext (by go_keep) hbf | (refine Below.ext ?_ hbf; first | assumption | exact And.left (by assumption) | exact And.left (And.right (by assumption)) | (repeat (first | with_reducible exact Below.refl _ _ | with_reducible assumption | with_reducible exact And.left (by assumption) | with_reducible exact And.left (And.right (by assumption)) | with_reducible refine Below.setCell ?_ (by dsimp only; omega) _ | with_reducible refine Below.allocE ?_ _ | with_reducible refine Below.drew ?_ | exact Below.refl _ _ | assumption | exact And.left (by assumption) | exact And.left (And.right (by assumption)) | refine Below.drew ?_ | refine Below.allocE ?_ _ | refine Below.setCell ?_ (by dsimp only; omega) _))) | exact cell_ext (by go_keep) hbg | (refine Below.ext ?_ hbg; first | assumption | exact And.left (by assumption) | exact And.left (And.right (by assumption)) | (repeat (first | with_reducible exact Below.refl _ _ | with_reducible assumption | with_reducible exact And.left (by assumption) | with_reducible exact And.left (And.right (by assumption)) | with_reducible refine Below.setCell ?_ (by dsimp only; omega) _ | with_reducible refine Below.allocE ?_ _ | with_reducible refine Below.drew ?_ | exact Below.refl _ _ | assumption | exact And.left (by assumption) | exact And.left (And.right (by assumption)) | refine Below.drew ?_ | refine Below.allocE ?_ _ | refine Below.setCell ?_ (by dsimp only; omega) _))) | (repeat (first | with_reducible exact Below.refl _ _ | with_reducible assumption | with_reducible exact And.left (by assumption) | with_reducible exact And.left (And.right (by assumption)) | with_reducible refine Below.setCell ?_ (by dsimp only; omega) _ | with_reducible refine Below.allocE ?_ _ | with_reducible refine Below.drew ?_ | exact Below.refl _ _ | assumption | exact And.left (by assumption) | exact And.left (And.right (by assumption)) | refine Below.drew ?_ | refine Below.allocE ?_ _ | refine Below.setCell ?_ (by dsimp only; omega) _))))
  refine wpAnyH_take (i := 0) (oi := { dst := some 13, op := Op.load 30 (Operand.tmp 2), type := 30, pos := _, after := #[], guard := none }) (v := ?_) rfl (by kernel_rfl) (by kernel_rfl) (by kernel_rfl) (fun _ _ _ h => h) (Or.inl ⟨by rfl, ?_⟩) (by assumption) ?_
  rotate_left 1
  · (intro w hSw; (try dsimp only at hSw); go_simp; (try with_reducible rfl))
  (try simp only [Act.put, List.setIfInBounds_toArray, List.set_cons_zero, List.set_cons_succ])
  refine wpAnyH_take (i := 2) (oi := { dst := some 15, op := Op.load 30 (Operand.tmp 3), type := 30, pos := _, after := #[], guard := none }) (v := ?_) rfl (by kernel_rfl) (by kernel_rfl) (by kernel_rfl) (fun _ _ _ h => h) (Or.inl ⟨by rfl, ?_⟩) (by assumption) ?_
  rotate_left 1
  · (intro w hSw; (try dsimp only at hSw); go_simp; (try with_reducible rfl))
  (try simp only [Act.put, List.setIfInBounds_toArray, List.set_cons_zero, List.set_cons_succ])
  refine wpAnyH_take (i := 4) (oi := { dst := some 17, op := Op.load 30 (Operand.tmp 2), type := 30, pos := _, after := #[], guard := none }) (v := ?_) rfl (by kernel_rfl) (by kernel_rfl) (by kernel_rfl) (fun _ _ _ h => h) (Or.inl ⟨by rfl, ?_⟩) (by assumption) ?_
  rotate_left 1
  · (intro w hSw; (try dsimp only at hSw); go_simp; (try with_reducible rfl))
  (try simp only [Act.put, List.setIfInBounds_toArray, List.set_cons_zero, List.set_cons_succ])
  refine wpAnyH_take (i := 5) (oi := { dst := some 18, op := Op.load 30 (Operand.tmp 3), type := 30, pos := _, after := #[], guard := none }) (v := ?_) rfl (by kernel_rfl) (by kernel_rfl) (by kernel_rfl) (fun _ _ _ h => h) (Or.inl ⟨by rfl, ?_⟩) (by assumption) ?_
  rotate_left 1
  · (intro w hSw; (try dsimp only at hSw); go_simp; (try with_reducible rfl))
  (try simp only [Act.put, List.setIfInBounds_toArray, List.set_cons_zero, List.set_cons_succ])
  refine wpAnyH_ready (rs := [1]) (by kernel_rfl) (by simp) ?_
  refine AllReadyH.cons (o := { dst := some 14, op := Op.call { callee := Callee.value (Operand.func 64), args := #[Operand.tmp 13], argTypes := #[30] }, type := 31, pos := _, after := #[{ on := 0, ground := Ground.data }], guard := none }) rfl (fun K hK => ?_) AllReadyH.nil
  (first | (first | (go_at_call 64; refine (CheckTrace_c (.slice A s.vals.length c) (.slice A' s.holes.length c') s _ hb).mono ?_; rintro e w' ⟨rfl, hbe⟩)) | (go_simp; (first | (go_at_call 64; refine (CheckTrace_c (.slice A s.vals.length c) (.slice A' s.holes.length c') s _ hb).mono ?_; rintro e w' ⟨rfl, hbe⟩))))
  refine hK.out _ _ ?_ (fun hNew => ?_)
  · (try dsimp only); ((repeat' apply And.intro) <;> first | go_keep | exact cell_ext (by go_keep) hbe | (refine Below.ext ?_ hbe; first | assumption | exact And.left (by assumption) | exact And.left (And.right (by assumption)) | (repeat (first | with_reducible exact Below.refl _ _ | with_reducible assumption | with_reducible exact And.left (by assumption) | with_reducible exact And.left (And.right (by assumption)) | with_reducible refine Below.setCell ?_ (by dsimp only; omega) _ | with_reducible refine Below.allocE ?_ _ | with_reducible refine Below.drew ?_ | exact Below.refl _ _ | assumption | exact And.left (by assumption) | exact And.left (And.right (by assumption)) | refine Below.drew ?_ | refine Below.allocE ?_ _ | refine Below.setCell ?_ (by dsimp only; omega) _))) | exact cell_ext (by go_keep) hbf | (refine Below.ext ?_ hbf; first | assumption | exact And.left (by assumption) | exact And.left (And.right (by assumption)) | (repeat (first | with_reducible exact Below.refl _ _ | with_reducible assumption | with_reducible exact And.left (by assumption) | with_reducible exact And.left (And.right (by assumption)) | with_reducible refine Below.setCell ?_ (by dsimp only; omega) _ | with_reducible refine Below.allocE ?_ _ | with_reducible refine Below.drew ?_ | exact Below.refl _ _ | assumption | exact And.left (by assumption) | exact And.left (And.right (by assumption)) | refine Below.drew ?_ | refine Below.allocE ?_ _ | refine Below.setCell ?_ (by dsimp only; omega) _))) | exact cell_ext (by go_keep) hbg | (refine Below.ext ?_ hbg; first | assumption | exact And.left (by assumption) | exact And.left (And.right (by assumption)) | (repeat (first | with_reducible exact Below.refl _ _ | with_reducible assumption | with_reducible exact And.left (by assumption) | with_reducible exact And.left (And.right (by assumption)) | with_reducible refine Below.setCell ?_ (by dsimp only; omega) _ | with_reducible refine Below.allocE ?_ _ | with_reducible refine Below.drew ?_ | exact Below.refl _ _ | assumption | exact And.left (by assumption) | exact And.left (And.right (by assumption)) | refine Below.drew ?_ | refine Below.allocE ?_ _ | refine Below.setCell ?_ (by dsimp only; omega) _))) | (repeat (first | with_reducible exact Below.refl _ _ | with_reducible assumption | with_reducible exact And.left (by assumption) | with_reducible exact And.left (And.right (by assumption)) | with_reducible refine Below.setCell ?_ (by dsimp only; omega) _ | with_reducible refine Below.allocE ?_ _ | with_reducible refine Below.drew ?_ | exact Below.refl _ _ | assumption | exact And.left (by assumption) | exact And.left (And.right (by assumption)) | refine Below.drew ?_ | refine Below.allocE ?_ _ | refine Below.setCell ?_ (by dsimp only; omega) _)))
  clear hK K
  have hHeld := hNew
  clear hNew
  (try dsimp only at hHeld)
  (try simp only [Act.put, List.setIfInBounds_toArray, List.set_cons_zero, List.set_cons_succ])
  refine wpAnyH_ready (rs := [3]) (by kernel_rfl) (by simp) ?_
  refine AllReadyH.cons (o := { dst := some 16, op := Op.call { callee := Callee.value (Operand.func 64), args := #[Operand.tmp 15], argTypes := #[30] }, type := 31, pos := _, after := #[{ on := 2, ground := Ground.data }, { on := 1, ground := Ground.chain }], guard := none }) rfl (fun K hK => ?_) AllReadyH.nil
  (first | (first | (go_at_call 64; refine (CheckTrace_c (.slice D t.vals.length d) (.slice D' t.holes.length d') t _ ((hb'.below hbe).more hbe.size)).mono ?_; rintro e w' ⟨rfl, hbf⟩)) | (go_simp; (first | (go_at_call 64; refine (CheckTrace_c (.slice D t.vals.length d) (.slice D' t.holes.length d') t _ ((hb'.below hbe).more hbe.size)).mono ?_; rintro e w' ⟨rfl, hbf⟩))))
  refine hK.out _ _ ?_ (fun hNew => ?_)
  · (try dsimp only); ((repeat' apply And.intro) <;> first | go_keep | exact cell_ext (by go_keep) hbe | (refine Below.ext ?_ hbe; first | assumption | exact And.left (by assumption) | exact And.left (And.right (by assumption)) | (repeat (first | with_reducible exact Below.refl _ _ | with_reducible assumption | with_reducible exact And.left (by assumption) | with_reducible exact And.left (And.right (by assumption)) | with_reducible refine Below.setCell ?_ (by dsimp only; omega) _ | with_reducible refine Below.allocE ?_ _ | with_reducible refine Below.drew ?_ | exact Below.refl _ _ | assumption | exact And.left (by assumption) | exact And.left (And.right (by assumption)) | refine Below.drew ?_ | refine Below.allocE ?_ _ | refine Below.setCell ?_ (by dsimp only; omega) _))) | exact cell_ext (by go_keep) hbf | (refine Below.ext ?_ hbf; first | assumption | exact And.left (by assumption) | exact And.left (And.right (by assumption)) | (repeat (first | with_reducible exact Below.refl _ _ | with_reducible assumption | with_reducible exact And.left (by assumption) | with_reducible exact And.left (And.right (by assumption)) | with_reducible refine Below.setCell ?_ (by dsimp only; omega) _ | with_reducible refine Below.allocE ?_ _ | with_reducible refine Below.drew ?_ | exact Below.refl _ _ | assumption | exact And.left (by assumption) | exact And.left (And.right (by assumption)) | refine Below.drew ?_ | refine Below.allocE ?_ _ | refine Below.setCell ?_ (by dsimp only; omega) _))) | exact cell_ext (by go_keep) hbg | (refine Below.ext ?_ hbg; first | assumption | exact And.left (by assumption) | exact And.left (And.right (by assumption)) | (repeat (first | with_reducible exact Below.refl _ _ | with_reducible assumption | with_reducible exact And.left (by assumption) | with_reducible exact And.left (And.right (by assumption)) | with_reducible refine Below.setCell ?_ (by dsimp only; omega) _ | with_reducible refine Below.allocE ?_ _ | with_reducible refine Below.drew ?_ | exact Below.refl _ _ | assumption | exact And.left (by assumption) | exact And.left (And.right (by assumption)) | refine Below.drew ?_ | refine Below.allocE ?_ _ | refine Below.setCell ?_ (by dsimp only; omega) _))) | (repeat (first | with_reducible exact Below.refl _ _ | with_reducible assumption | with_reducible exact And.left (by assumption) | with_reducible exact And.left (And.right (by assumption)) | with_reducible refine Below.setCell ?_ (by dsimp only; omega) _ | with_reducible refine Below.allocE ?_ _ | with_reducible refine Below.drew ?_ | exact Below.refl _ _ | assumption | exact And.left (by assumption) | exact And.left (And.right (by assumption)) | refine Below.drew ?_ | refine Below.allocE ?_ _ | refine Below.setCell ?_ (by dsimp only; omega) _)))
  clear hK K
  have hHeld := hNew
  clear hNew
  (try dsimp only at hHeld)
  (try simp only [Act.put, List.setIfInBounds_toArray, List.set_cons_zero, List.set_cons_succ])
  refine wpAnyH_ready (rs := [6]) (by kernel_rfl) (by simp) ?_
  refine AllReadyH.cons (o := { dst := some 19, op := Op.call { callee := Callee.value (Operand.func 103), args := #[Operand.tmp 17, Operand.tmp 18], argTypes := #[30, 30] }, type := 4, pos := _, after := #[{ on := 4, ground := Ground.data }, { on := 5, ground := Ground.data }, { on := 3, ground := Ground.chain }], guard := none }) rfl (fun K hK => ?_) AllReadyH.nil
  (first | (first | (go_at_call 103; refine (alike_c (.slice A s.vals.length c) (.slice A' s.holes.length c') (.slice D t.vals.length d) (.slice D' t.holes.length d') s t _ ((((hb.below hbe).more hbe.size).below hbf).more hbf.size) ((((hb'.below hbe).more hbe.size).below hbf).more hbf.size)).mono ?_; rintro e w' ⟨rfl, hbg⟩) | (go_at_call 90; refine (when_c _ _ _).mono ?_; rintro e w' ⟨rfl, rfl⟩) | (go_at_call 72; refine (first_c _ [?_, ?_, ?_] _ ?_).mono ?_; rotate_left 3; (refine Rd.fresh _ _ _ _ ?_ ?_ ?_ <;> simp); rintro e w' ⟨rfl, rfl⟩)) | (go_simp; (first | (go_at_call 103; refine (alike_c (.slice A s.vals.length c) (.slice A' s.holes.length c') (.slice D t.vals.length d) (.slice D' t.holes.length d') s t _ ((((hb.below hbe).more hbe.size).below hbf).more hbf.size) ((((hb'.below hbe).more hbe.size).below hbf).more hbf.size)).mono ?_; rintro e w' ⟨rfl, hbg⟩) | (go_at_call 90; refine (when_c _ _ _).mono ?_; rintro e w' ⟨rfl, rfl⟩) | (go_at_call 72; refine (first_c _ [?_, ?_, ?_] _ ?_).mono ?_; rotate_left 3; (refine Rd.fresh _ _ _ _ ?_ ?_ ?_ <;> simp); rintro e w' ⟨rfl, rfl⟩))))
  refine hK.out _ _ ?_ (fun hNew => ?_)
  · (try dsimp only); ((repeat' apply And.intro) <;> first | go_keep | exact cell_ext (by go_keep) hbe | (refine Below.ext ?_ hbe; first | assumption | exact And.left (by assumption) | exact And.left (And.right (by assumption)) | (repeat (first | with_reducible exact Below.refl _ _ | with_reducible assumption | with_reducible exact And.left (by assumption) | with_reducible exact And.left (And.right (by assumption)) | with_reducible refine Below.setCell ?_ (by dsimp only; omega) _ | with_reducible refine Below.allocE ?_ _ | with_reducible refine Below.drew ?_ | exact Below.refl _ _ | assumption | exact And.left (by assumption) | exact And.left (And.right (by assumption)) | refine Below.drew ?_ | refine Below.allocE ?_ _ | refine Below.setCell ?_ (by dsimp only; omega) _))) | exact cell_ext (by go_keep) hbf | (refine Below.ext ?_ hbf; first | assumption | exact And.left (by assumption) | exact And.left (And.right (by assumption)) | (repeat (first | with_reducible exact Below.refl _ _ | with_reducible assumption | with_reducible exact And.left (by assumption) | with_reducible exact And.left (And.right (by assumption)) | with_reducible refine Below.setCell ?_ (by dsimp only; omega) _ | with_reducible refine Below.allocE ?_ _ | with_reducible refine Below.drew ?_ | exact Below.refl _ _ | assumption | exact And.left (by assumption) | exact And.left (And.right (by assumption)) | refine Below.drew ?_ | refine Below.allocE ?_ _ | refine Below.setCell ?_ (by dsimp only; omega) _))) | exact cell_ext (by go_keep) hbg | (refine Below.ext ?_ hbg; first | assumption | exact And.left (by assumption) | exact And.left (And.right (by assumption)) | (repeat (first | with_reducible exact Below.refl _ _ | with_reducible assumption | with_reducible exact And.left (by assumption) | with_reducible exact And.left (And.right (by assumption)) | with_reducible refine Below.setCell ?_ (by dsimp only; omega) _ | with_reducible refine Below.allocE ?_ _ | with_reducible refine Below.drew ?_ | exact Below.refl _ _ | assumption | exact And.left (by assumption) | exact And.left (And.right (by assumption)) | refine Below.drew ?_ | refine Below.allocE ?_ _ | refine Below.setCell ?_ (by dsimp only; omega) _))) | (repeat (first | with_reducible exact Below.refl _ _ | with_reducible assumption | with_reducible exact And.left (by assumption) | with_reducible exact And.left (And.right (by assumption)) | with_reducible refine Below.setCell ?_ (by dsimp only; omega) _ | with_reducible refine Below.allocE ?_ _ | with_reducible refine Below.drew ?_ | exact Below.refl _ _ | assumption | exact And.left (by assumption) | exact And.left (And.right (by assumption)) | refine Below.drew ?_ | refine Below.allocE ?_ _ | refine Below.setCell ?_ (by dsimp only; omega) _)))
  clear hK K
  have hHeld := hNew
  clear hNew
  (try dsimp only at hHeld)
  (try simp only [Act.put, List.setIfInBounds_toArray, List.set_cons_zero, List.set_cons_succ])
  refine wpAnyH_take (i := 7) (oi := { dst := some 20, op := Op.unOp UnOp.not 4 (Operand.tmp 19), type := 4, pos := _, after := #[{ on := 6, ground := Ground.data }], guard := none }) (v := ?_) rfl (by kernel_rfl) (by kernel_rfl) (by kernel_rfl) (fun _ _ _ h => h) (Or.inl ⟨by rfl, ?_⟩) (by assumption) ?_
  rotate_left 1
  · (intro w hSw; (try dsimp only at hSw); go_simp; (try with_reducible rfl))
  (try simp only [Act.put, List.setIfInBounds_toArray, List.set_cons_zero, List.set_cons_succ])
  refine wpAnyH_ready (rs := [8]) (by kernel_rfl) (by simp) ?_
  refine AllReadyH.cons (o := { dst := some 21, op := Op.call { callee := Callee.value (Operand.func 90), args := #[Operand.tmp 20, Operand.const (Value.int IntKind.i64 2)], argTypes := #[4, 31] }, type := 31, pos := _, after := #[{ on := 7, ground := Ground.data }, { on := 6, ground := Ground.chain }], guard := none }) rfl (fun K hK => ?_) AllReadyH.nil
  (first | (first | (go_at_call 103; refine (alike_c (.slice A s.vals.length c) (.slice A' s.holes.length c') (.slice D t.vals.length d) (.slice D' t.holes.length d') s t _ ((((hb.below hbe).more hbe.size).below hbf).more hbf.size) ((((hb'.below hbe).more hbe.size).below hbf).more hbf.size)).mono ?_; rintro e w' ⟨rfl, hbg⟩) | (go_at_call 90; refine (when_c _ _ _).mono ?_; rintro e w' ⟨rfl, rfl⟩) | (go_at_call 72; refine (first_c _ [?_, ?_, ?_] _ ?_).mono ?_; rotate_left 3; (refine Rd.fresh _ _ _ _ ?_ ?_ ?_ <;> simp); rintro e w' ⟨rfl, rfl⟩)) | (go_simp; (first | (go_at_call 103; refine (alike_c (.slice A s.vals.length c) (.slice A' s.holes.length c') (.slice D t.vals.length d) (.slice D' t.holes.length d') s t _ ((((hb.below hbe).more hbe.size).below hbf).more hbf.size) ((((hb'.below hbe).more hbe.size).below hbf).more hbf.size)).mono ?_; rintro e w' ⟨rfl, hbg⟩) | (go_at_call 90; refine (when_c _ _ _).mono ?_; rintro e w' ⟨rfl, rfl⟩) | (go_at_call 72; refine (first_c _ [?_, ?_, ?_] _ ?_).mono ?_; rotate_left 3; (refine Rd.fresh _ _ _ _ ?_ ?_ ?_ <;> simp); rintro e w' ⟨rfl, rfl⟩))))
  refine hK.out _ _ ?_ (fun hNew => ?_)
  · (try dsimp only); ((repeat' apply And.intro) <;> first | go_keep | exact cell_ext (by go_keep) hbe | (refine Below.ext ?_ hbe; first | assumption | exact And.left (by assumption) | exact And.left (And.right (by assumption)) | (repeat (first | with_reducible exact Below.refl _ _ | with_reducible assumption | with_reducible exact And.left (by assumption) | with_reducible exact And.left (And.right (by assumption)) | with_reducible refine Below.setCell ?_ (by dsimp only; omega) _ | with_reducible refine Below.allocE ?_ _ | with_reducible refine Below.drew ?_ | exact Below.refl _ _ | assumption | exact And.left (by assumption) | exact And.left (And.right (by assumption)) | refine Below.drew ?_ | refine Below.allocE ?_ _ | refine Below.setCell ?_ (by dsimp only; omega) _))) | exact cell_ext (by go_keep) hbf | (refine Below.ext ?_ hbf; first | assumption | exact And.left (by assumption) | exact And.left (And.right (by assumption)) | (repeat (first | with_reducible exact Below.refl _ _ | with_reducible assumption | with_reducible exact And.left (by assumption) | with_reducible exact And.left (And.right (by assumption)) | with_reducible refine Below.setCell ?_ (by dsimp only; omega) _ | with_reducible refine Below.allocE ?_ _ | with_reducible refine Below.drew ?_ | exact Below.refl _ _ | assumption | exact And.left (by assumption) | exact And.left (And.right (by assumption)) | refine Below.drew ?_ | refine Below.allocE ?_ _ | refine Below.setCell ?_ (by dsimp only; omega) _))) | exact cell_ext (by go_keep) hbg | (refine Below.ext ?_ hbg; first | assumption | exact And.left (by assumption) | exact And.left (And.right (by assumption)) | (repeat (first | with_reducible exact Below.refl _ _ | with_reducible assumption | with_reducible exact And.left (by assumption) | with_reducible exact And.left (And.right (by assumption)) | with_reducible refine Below.setCell ?_ (by dsimp only; omega) _ | with_reducible refine Below.allocE ?_ _ | with_reducible refine Below.drew ?_ | exact Below.refl _ _ | assumption | exact And.left (by assumption) | exact And.left (And.right (by assumption)) | refine Below.drew ?_ | refine Below.allocE ?_ _ | refine Below.setCell ?_ (by dsimp only; omega) _))) | (repeat (first | with_reducible exact Below.refl _ _ | with_reducible assumption | with_reducible exact And.left (by assumption) | with_reducible exact And.left (And.right (by assumption)) | with_reducible refine Below.setCell ?_ (by dsimp only; omega) _ | with_reducible refine Below.allocE ?_ _ | with_reducible refine Below.drew ?_ | exact Below.refl _ _ | assumption | exact And.left (by assumption) | exact And.left (And.right (by assumption)) | refine Below.drew ?_ | refine Below.allocE ?_ _ | refine Below.setCell ?_ (by dsimp only; omega) _)))
  clear hK K
  have hHeld := hNew
  clear hNew
  (try dsimp only at hHeld)
  (try simp only [Act.put, List.setIfInBounds_toArray, List.set_cons_zero, List.set_cons_succ])
  refine wpAnyH_ready (rs := [9]) (by kernel_rfl) (by simp) ?_
  refine AllReadyH.cons (o := { dst := some 22, op := Op.buildSlice 145 3 #[(0, Operand.tmp 14), (1, Operand.tmp 16), (2, Operand.tmp 21)], type := 145, pos := _, after := #[{ on := 1, ground := Ground.data }, { on := 3, ground := Ground.data }, { on := 8, ground := Ground.data }], guard := none }) rfl (fun K hK => ?_) AllReadyH.nil
  (first  | go_simp)
  refine hK.out _ _ ?_ (fun hNew => ?_)
  · (try dsimp only); ((repeat' apply And.intro) <;> first | go_keep | exact cell_ext (by go_keep) hbe | (refine Below.ext ?_ hbe; first | assumption | exact And.left (by assumption) | exact And.left (And.right (by assumption)) | (repeat (first | with_reducible exact Below.refl _ _ | with_reducible assumption | with_reducible exact And.left (by assumption) | with_reducible exact And.left (And.right (by assumption)) | with_reducible refine Below.setCell ?_ (by dsimp only; omega) _ | with_reducible refine Below.allocE ?_ _ | with_reducible refine Below.drew ?_ | exact Below.refl _ _ | assumption | exact And.left (by assumption) | exact And.left (And.right (by assumption)) | refine Below.drew ?_ | refine Below.allocE ?_ _ | refine Below.setCell ?_ (by dsimp only; omega) _))) | exact cell_ext (by go_keep) hbf | (refine Below.ext ?_ hbf; first | assumption | exact And.left (by assumption) | exact And.left (And.right (by assumption)) | (repeat (first | with_reducible exact Below.refl _ _ | with_reducible assumption | with_reducible exact And.left (by assumption) | with_reducible exact And.left (And.right (by assumption)) | with_reducible refine Below.setCell ?_ (by dsimp only; omega) _ | with_reducible refine Below.allocE ?_ _ | with_reducible refine Below.drew ?_ | exact Below.refl _ _ | assumption | exact And.left (by assumption) | exact And.left (And.right (by assumption)) | refine Below.drew ?_ | refine Below.allocE ?_ _ | refine Below.setCell ?_ (by dsimp only; omega) _))) | exact cell_ext (by go_keep) hbg | (refine Below.ext ?_ hbg; first | assumption | exact And.left (by assumption) | exact And.left (And.right (by assumption)) | (repeat (first | with_reducible exact Below.refl _ _ | with_reducible assumption | with_reducible exact And.left (by assumption) | with_reducible exact And.left (And.right (by assumption)) | with_reducible refine Below.setCell ?_ (by dsimp only; omega) _ | with_reducible refine Below.allocE ?_ _ | with_reducible refine Below.drew ?_ | exact Below.refl _ _ | assumption | exact And.left (by assumption) | exact And.left (And.right (by assumption)) | refine Below.drew ?_ | refine Below.allocE ?_ _ | refine Below.setCell ?_ (by dsimp only; omega) _))) | (repeat (first | with_reducible exact Below.refl _ _ | with_reducible assumption | with_reducible exact And.left (by assumption) | with_reducible exact And.left (And.right (by assumption)) | with_reducible refine Below.setCell ?_ (by dsimp only; omega) _ | with_reducible refine Below.allocE ?_ _ | with_reducible refine Below.drew ?_ | exact Below.refl _ _ | assumption | exact And.left (by assumption) | exact And.left (And.right (by assumption)) | refine Below.drew ?_ | refine Below.allocE ?_ _ | refine Below.setCell ?_ (by dsimp only; omega) _)))
  clear hK K
  have hHeld := hNew
  clear hNew
  (try dsimp only at hHeld)
  (try simp only [Act.put, List.setIfInBounds_toArray, List.set_cons_zero, List.set_cons_succ])
  refine wpAnyH_ready (rs := [10]) (by kernel_rfl) (by simp) ?_
  refine AllReadyH.cons (o := { dst := some 23, op := Op.call { callee := Callee.value (Operand.func 72), args := #[Operand.tmp 22], argTypes := #[145] }, type := 31, pos := _, after := #[{ on := 9, ground := Ground.data }, { on := 8, ground := Ground.chain }], guard := none }) rfl (fun K hK => ?_) AllReadyH.nil
  (first | (first | (go_at_call 103; refine (alike_c (.slice A s.vals.length c) (.slice A' s.holes.length c') (.slice D t.vals.length d) (.slice D' t.holes.length d') s t _ ((((hb.below hbe).more hbe.size).below hbf).more hbf.size) ((((hb'.below hbe).more hbe.size).below hbf).more hbf.size)).mono ?_; rintro e w' ⟨rfl, hbg⟩) | (go_at_call 90; refine (when_c _ _ _).mono ?_; rintro e w' ⟨rfl, rfl⟩) | (go_at_call 72; refine (first_c _ [?_, ?_, ?_] _ ?_).mono ?_; rotate_left 3; (refine Rd.fresh _ _ _ _ ?_ ?_ ?_ <;> simp); rintro e w' ⟨rfl, rfl⟩)) | (go_simp; (first | (go_at_call 103; refine (alike_c (.slice A s.vals.length c) (.slice A' s.holes.length c') (.slice D t.vals.length d) (.slice D' t.holes.length d') s t _ ((((hb.below hbe).more hbe.size).below hbf).more hbf.size) ((((hb'.below hbe).more hbe.size).below hbf).more hbf.size)).mono ?_; rintro e w' ⟨rfl, hbg⟩) | (go_at_call 90; refine (when_c _ _ _).mono ?_; rintro e w' ⟨rfl, rfl⟩) | (go_at_call 72; refine (first_c _ [?_, ?_, ?_] _ ?_).mono ?_; rotate_left 3; (refine Rd.fresh _ _ _ _ ?_ ?_ ?_ <;> simp); rintro e w' ⟨rfl, rfl⟩))))
  refine hK.out _ _ ?_ (fun hNew => ?_)
  · (try dsimp only); ((repeat' apply And.intro) <;> first | go_keep | exact cell_ext (by go_keep) hbe | (refine Below.ext ?_ hbe; first | assumption | exact And.left (by assumption) | exact And.left (And.right (by assumption)) | (repeat (first | with_reducible exact Below.refl _ _ | with_reducible assumption | with_reducible exact And.left (by assumption) | with_reducible exact And.left (And.right (by assumption)) | with_reducible refine Below.setCell ?_ (by dsimp only; omega) _ | with_reducible refine Below.allocE ?_ _ | with_reducible refine Below.drew ?_ | exact Below.refl _ _ | assumption | exact And.left (by assumption) | exact And.left (And.right (by assumption)) | refine Below.drew ?_ | refine Below.allocE ?_ _ | refine Below.setCell ?_ (by dsimp only; omega) _))) | exact cell_ext (by go_keep) hbf | (refine Below.ext ?_ hbf; first | assumption | exact And.left (by assumption) | exact And.left (And.right (by assumption)) | (repeat (first | with_reducible exact Below.refl _ _ | with_reducible assumption | with_reducible exact And.left (by assumption) | with_reducible exact And.left (And.right (by assumption)) | with_reducible refine Below.setCell ?_ (by dsimp only; omega) _ | with_reducible refine Below.allocE ?_ _ | with_reducible refine Below.drew ?_ | exact Below.refl _ _ | assumption | exact And.left (by assumption) | exact And.left (And.right (by assumption)) | refine Below.drew ?_ | refine Below.allocE ?_ _ | refine Below.setCell ?_ (by dsimp only; omega) _))) | exact cell_ext (by go_keep) hbg | (refine Below.ext ?_ hbg; first | assumption | exact And.left (by assumption) | exact And.left (And.right (by assumption)) | (repeat (first | with_reducible exact Below.refl _ _ | with_reducible assumption | with_reducible exact And.left (by assumption) | with_reducible exact And.left (And.right (by assumption)) | with_reducible refine Below.setCell ?_ (by dsimp only; omega) _ | with_reducible refine Below.allocE ?_ _ | with_reducible refine Below.drew ?_ | exact Below.refl _ _ | assumption | exact And.left (by assumption) | exact And.left (And.right (by assumption)) | refine Below.drew ?_ | refine Below.allocE ?_ _ | refine Below.setCell ?_ (by dsimp only; omega) _))) | (repeat (first | with_reducible exact Below.refl _ _ | with_reducible assumption | with_reducible exact And.left (by assumption) | with_reducible exact And.left (And.right (by assumption)) | with_reducible refine Below.setCell ?_ (by dsimp only; omega) _ | with_reducible refine Below.allocE ?_ _ | with_reducible refine Below.drew ?_ | exact Below.refl _ _ | assumption | exact And.left (by assumption) | exact And.left (And.right (by assumption)) | refine Below.drew ?_ | refine Below.allocE ?_ _ | refine Below.setCell ?_ (by dsimp only; omega) _)))
  clear hK K
  have hHeld := hNew
  clear hNew
  (try dsimp only at hHeld)
  (try simp only [Act.put, List.setIfInBounds_toArray, List.set_cons_zero, List.set_cons_succ])
  refine wpAnyH_take (i := 11) (oi := { dst := some 6, op := Op.assign (Operand.tmp 23), type := 31, pos := _, after := #[{ on := 10, ground := Ground.data }, { on := 10, ground := Ground.chain }, { on := 0, ground := Ground.phase }, { on := 1, ground := Ground.phase }, { on := 2, ground := Ground.phase }, { on := 3, ground := Ground.phase }, { on := 4, ground := Ground.phase }, { on := 5, ground := Ground.phase }, { on := 6, ground := Ground.phase }, { on := 7, ground := Ground.phase }, { on := 8, ground := Ground.phase }, { on := 9, ground := Ground.phase }, { on := 10, ground := Ground.phase }], guard := none }) (v := ?_) rfl (by kernel_rfl) (by kernel_rfl) (by kernel_rfl) (fun _ _ _ h => h) (Or.inl ⟨by rfl, ?_⟩) (by assumption) ?_
  rotate_left 1
  · (intro w hSw; (try dsimp only at hSw); go_simp; (try with_reducible rfl))
  (try simp only [Act.put, List.setIfInBounds_toArray, List.set_cons_zero, List.set_cons_succ])
  refine wpAnyH_done (by kernel_rfl) ?_ _
  refine NoPanic.normal ?_
  have hX : Below W.drew.heap.size W.drew (w'.alloc (.cells #[.int .i64 (traceS s), .int .i64 (traceS t), .int .i64 (whenS (!alikeS s t) 2)] 31)) := Below.allocE (Below.ext (Below.ext hbe hbf) hbg) _
  obtain ⟨hA, u0, u1, u2, u3, u4, u5⟩ := hHeld
  clear hbe hbf hbg
  generalize World.alloc w' _ = X at *
  have m1 := k1.drew.ext hX
  have m2 := k2.drew.ext hX
  have m3 := k3.drew.ext hX
  have hb2 := (hb.below hX).more hX.size
  have hb2' := (hb'.below hX).more hX.size
  by_cases he : firstS [traceS s, traceS t, whenS (!alikeS s t) 2] = 0
  · have hok := he
    rw [firstS_eq] at hok
    have ok1 := traceS_ok (hok (traceS s) (by simp))
    have ok2 := traceS_ok (hok (traceS t) (by simp))
    have ok3 := (whenS_eq (!alikeS s t) 2 (by decide)).1 (hok (whenS (!alikeS s t) 2) (by simp))
    have hal : s.first = t.first ∧ s.vals.length = t.vals.length := by simpa [alikeS] using ok3
    have HAL := Lib.hid hal
    clear hok ok3 hal
    have HE := Lib.hid he
    rw [he]
    clear he
    go_wp2
    have hs2 := hX.size
    simp only [World.drew] at hs2
    have hx3 := m3.lt
    have hb3 : RdT X.drew X.drew.heap.size (.slice A s.vals.length c) (.slice A' s.holes.length c') s := ⟨hb2.1.drew, hb2.2.drew⟩
    have hb3' : RdT X.drew X.drew.heap.size (.slice D t.vals.length d) (.slice D' t.holes.length d') t := ⟨hb2'.1.drew, hb2'.2.drew⟩
    refine wp_region_noPanic ?_
    refine wp_region_held_drew (S := fun w' => Below w.heap.size w w' ∧ w'.cell? ⟨w.heap.size, 0, none⟩ = some (.int .i64 s.first) ∧ w'.cell? ⟨w.heap.size, 1, none⟩ = some (.slice A s.vals.length c) ∧ w'.cell? ⟨w.heap.size, 2, none⟩ = some (.slice A' s.holes.length c') ∧ w'.cell? ⟨w.heap.size + 1, 0, none⟩ = some (.int .i64 t.first) ∧ w'.cell? ⟨w.heap.size + 1, 1, none⟩ = some (.slice D t.vals.length d) ∧ w'.cell? ⟨w.heap.size + 1, 2, none⟩ = some (.slice D' t.holes.length d')) (by kernel_rfl) ?_ (fun hHeld => ?_)
    · (try dsimp only); ((repeat' apply And.intro) <;> first | go_keep  | (repeat (first | with_reducible exact Below.refl _ _ | with_reducible assumption | with_reducible exact And.left (by assumption) | with_reducible exact And.left (And.right (by assumption)) | with_reducible refine Below.setCell ?_ (by dsimp only; omega) _ | with_reducible refine Below.allocE ?_ _ | with_reducible refine Below.drew ?_ | exact Below.refl _ _ | assumption | exact And.left (by assumption) | exact And.left (And.right (by assumption)) | refine Below.drew ?_ | refine Below.allocE ?_ _ | refine Below.setCell ?_ (by dsimp only; omega) _)))
    refine wpAnyH_take (i := 0) (oi := { dst := some 28, op := Op.load 30 (Operand.tmp 2), type := 30, pos := _, after := #[], guard := none }) (v := ?_) rfl (by kernel_rfl) (by kernel_rfl) (by kernel_rfl) (fun _ _ _ h => h) (Or.inl ⟨by rfl, ?_⟩) (by assumption) ?_
    rotate_left 1
    · (intro w hSw; (try dsimp only at hSw); go_simp; (try with_reducible rfl))
    (try simp only [Act.put, List.setIfInBounds_toArray, List.set_cons_zero, List.set_cons_succ])
    refine wpAnyH_take (i := 2) (oi := { dst := some 30, op := Op.load 30 (Operand.tmp 3), type := 30, pos := _, after := #[], guard := none }) (v := ?_) rfl (by kernel_rfl) (by kernel_rfl) (by kernel_rfl) (fun _ _ _ h => h) (Or.inl ⟨by rfl, ?_⟩) (by assumption) ?_
    rotate_left 1
    · (intro w hSw; (try dsimp only at hSw); go_simp; (try with_reducible rfl))
    (try simp only [Act.put, List.setIfInBounds_toArray, List.set_cons_zero, List.set_cons_succ])
    refine wpAnyH_stable [1, 3, 4, 5] [4, 5] Kept (fun i => match i with | 1 => (fun v w' => ∃ g, v = .agg #[.int .i64 s.first, .slice A s.vals.length c, .slice A' s.holes.length c', .slice (some ⟨g, 0, none⟩) s.vals.length s.vals.length] ∧ Blk w' g 4 (bools (knS s.vals.length s.holes)).toArray) | 3 => (fun v w' => ∃ g, v = .agg #[.int .i64 t.first, .slice D t.vals.length d, .slice D' t.holes.length d', .slice (some ⟨g, 0, none⟩) t.vals.length t.vals.length] ∧ Blk w' g 4 (bools (knS t.vals.length t.holes)).toArray) | 4 => (fun v w' => ∃ g, v = .pointer (some ⟨g, 0, none⟩) ∧ Blk w' g 112 #[.int .i64 0, .slice none 0 0, .slice none 0 0, .slice none 0 0] ∧ X.heap.size ≤ g) | 5 => (fun v w' => ∃ g, v = .pointer (some ⟨g, 0, none⟩) ∧ Blk w' g 112 #[.int .i64 0, .slice none 0 0, .slice none 0 0, .slice none 0 0] ∧ X.heap.size ≤ g) | _ => fun _ _ => True) (fun a vs => ((((a.put (some 29) (vs 1)).put (some 31) (vs 3)).put (some 7) (vs 4)).put (some 8) (vs 5))) (Kept.refl _) Kept.size Kept.trans (by kernel_rfl) (fun _ _ _ _ _ h => h) (fun _ => rfl) ?_ ?_ ?_ (fuel := 2) rfl ?_
    · refine List.forall_mem_cons.2 ⟨?_, List.forall_mem_cons.2 ⟨?_, List.forall_mem_cons.2 ⟨?_, List.forall_mem_cons.2 ⟨?_, fun _ h => by cases h⟩⟩⟩⟩ <;> (intro v; (try dsimp only); first | exact fun _ _ h _ => h | (refine fun w w' h k => Lasting.of ?_ h k; repeat (first | exact Lasting.always _ | exact Lasting.blk _ _ _ | exact Lasting.lt _ | exact Lasting.rd _ _ _ _ | exact Lasting.rdB _ _ _ _ _ | exact Lasting.below _ _ | (refine Lasting.ex fun _ => ?_) | (refine Lasting.both ?_ ?_))))
    · (intro w' hR; (try dsimp only at hHeld ⊢); have hR' : Below _ _ _ := hR; (try dsimp only); ((repeat' apply And.intro) <;> first | go_keep | exact cell_ext (by go_keep) hR' | (refine Below.ext ?_ hR'; first | assumption | exact And.left (by assumption) | exact And.left (And.right (by assumption)) | (repeat (first | with_reducible exact Below.refl _ _ | with_reducible assumption | with_reducible exact And.left (by assumption) | with_reducible exact And.left (And.right (by assumption)) | with_reducible refine Below.setCell ?_ (by dsimp only; omega) _ | with_reducible refine Below.allocE ?_ _ | with_reducible refine Below.drew ?_ | exact Below.refl _ _ | assumption | exact And.left (by assumption) | exact And.left (And.right (by assumption)) | refine Below.drew ?_ | refine Below.allocE ?_ _ | refine Below.setCell ?_ (by dsimp only; omega) _))) | (repeat (first | with_reducible exact Below.refl _ _ | with_reducible assumption | with_reducible exact And.left (by assumption) | with_reducible exact And.left (And.right (by assumption)) | with_reducible refine Below.setCell ?_ (by dsimp only; omega) _ | with_reducible refine Below.allocE ?_ _ | with_reducible refine Below.drew ?_ | exact Below.refl _ _ | assumption | exact And.left (by assumption) | exact And.left (And.right (by assumption)) | refine Below.drew ?_ | refine Below.allocE ?_ _ | refine Below.setCell ?_ (by dsimp only; omega) _))))
    · clear hHeld
      refine List.forall_mem_cons.2 ⟨?_, List.forall_mem_cons.2 ⟨?_, List.forall_mem_cons.2 ⟨?_, List.forall_mem_cons.2 ⟨?_, fun _ h => by cases h⟩⟩⟩⟩
      · intro vs wk hR hHeld hF K hK
        have hR' : Below _ _ _ := hR
        clear hF
        refine step_in (o := { dst := some 29, op := Op.call { callee := Callee.value (Operand.func 73), args := #[Operand.tmp 28], argTypes := #[30] }, type := 112, pos := _, after := #[{ on := 0, ground := Ground.data }], guard := none }) rfl ?_ hK
        clear hK K; intro K hK
        (try dsimp only at hK hHeld ⊢)
        generalize vs 1 = v1 at *
        generalize vs 3 = v3 at *
        generalize vs 4 = v4 at *
        generalize vs 5 = v5 at *
        (try simp only [Act.put, List.setIfInBounds_toArray, List.set_cons_zero, List.set_cons_succ] at hK ⊢)
        (first | (first | (go_at_call 73; refine (read_c (.slice A s.vals.length c) (.slice A' s.holes.length c') s _ ((hb3.below hR').more hR'.size) ok1.len ok1.holes).mono ?_; rintro e w' ⟨kg, rfl, hkg, hbe⟩)) | (go_simp; (first | (go_at_call 73; refine (read_c (.slice A s.vals.length c) (.slice A' s.holes.length c') s _ ((hb3.below hR').more hR'.size) ok1.len ok1.holes).mono ?_; rintro e w' ⟨kg, rfl, hkg, hbe⟩))))
        refine hK.out _ _ (show Below _ _ _ from ?_) ?_ ?_
        · (repeat (first | with_reducible exact Below.refl _ _ | with_reducible assumption | with_reducible exact And.left (by assumption) | with_reducible exact And.left (And.right (by assumption)) | with_reducible refine Below.setCell ?_ (by dsimp only; omega) _ | with_reducible refine Below.allocE ?_ _ | with_reducible refine Below.drew ?_ | exact Below.refl _ _ | assumption | exact And.left (by assumption) | exact And.left (And.right (by assumption)) | refine Below.drew ?_ | refine Below.allocE ?_ _ | refine Below.setCell ?_ (by dsimp only; omega) _))
        · (try dsimp only); exact ⟨_, rfl, hkg⟩
        · (intro hbb; exact absurd hbb (by decide))
      · intro vs wk hR hHeld hF K hK
        have hR' : Below _ _ _ := hR
        have h1 : (fun v w' => ∃ g, v = .agg #[.int .i64 s.first, .slice A s.vals.length c, .slice A' s.holes.length c', .slice (some ⟨g, 0, none⟩) s.vals.length s.vals.length] ∧ Blk w' g 4 (bools (knS s.vals.length s.holes)).toArray) (vs 1) wk := hF 1 (by simp) (by kernel_rfl)
        clear hF
        refine step_in (o := { dst := some 31, op := Op.call { callee := Callee.value (Operand.func 73), args := #[Operand.tmp 30], argTypes := #[30] }, type := 112, pos := _, after := #[{ on := 2, ground := Ground.data }, { on := 1, ground := Ground.chain }], guard := none }) rfl ?_ hK
        clear hK K; intro K hK
        (try dsimp only at hK hHeld ⊢)
        (try dsimp only at h1)
        generalize vs 1 = v1 at *
        generalize vs 3 = v3 at *
        generalize vs 4 = v4 at *
        generalize vs 5 = v5 at *
        (try simp only [Act.put, List.setIfInBounds_toArray, List.set_cons_zero, List.set_cons_succ] at hK ⊢)
        obtain ⟨ka, rfl, kka⟩ := h1
        (first | (first | (go_at_call 73; refine (read_c (.slice D t.vals.length d) (.slice D' t.holes.length d') t _ ((hb3'.below hR').more hR'.size) ok2.len ok2.holes).mono ?_; rintro e w' ⟨kg, rfl, hkg, hbe⟩)) | (go_simp; (first | (go_at_call 73; refine (read_c (.slice D t.vals.length d) (.slice D' t.holes.length d') t _ ((hb3'.below hR').more hR'.size) ok2.len ok2.holes).mono ?_; rintro e w' ⟨kg, rfl, hkg, hbe⟩))))
        refine hK.out _ _ (show Below _ _ _ from ?_) ?_ ?_
        · (repeat (first | with_reducible exact Below.refl _ _ | with_reducible assumption | with_reducible exact And.left (by assumption) | with_reducible exact And.left (And.right (by assumption)) | with_reducible refine Below.setCell ?_ (by dsimp only; omega) _ | with_reducible refine Below.allocE ?_ _ | with_reducible refine Below.drew ?_ | exact Below.refl _ _ | assumption | exact And.left (by assumption) | exact And.left (And.right (by assumption)) | refine Below.drew ?_ | refine Below.allocE ?_ _ | refine Below.setCell ?_ (by dsimp only; omega) _))
        · (try dsimp only); exact ⟨_, rfl, hkg⟩
        · (intro hbb; exact absurd hbb (by decide))
      · intro vs wk hR hHeld hF K hK
        have hR' : Below _ _ _ := hR
        clear hF
        refine step_in (o := { dst := some 7, op := Op.alloc 112, type := 0, pos := _, after := #[], guard := none }) rfl ?_ hK
        clear hK K; intro K hK
        (try dsimp only at hK hHeld ⊢)
        generalize vs 1 = v1 at *
        generalize vs 3 = v3 at *
        generalize vs 4 = v4 at *
        generalize vs 5 = v5 at *
        (try simp only [Act.put, List.setIfInBounds_toArray, List.set_cons_zero, List.set_cons_succ] at hK ⊢)
        go_simp
        refine hK.out _ _ (show Below _ _ _ from ?_) ?_ ?_
        · (repeat (first | with_reducible exact Below.refl _ _ | with_reducible assumption | with_reducible exact And.left (by assumption) | with_reducible exact And.left (And.right (by assumption)) | with_reducible refine Below.setCell ?_ (by dsimp only; omega) _ | with_reducible refine Below.allocE ?_ _ | with_reducible refine Below.drew ?_ | exact Below.refl _ _ | assumption | exact And.left (by assumption) | exact And.left (And.right (by assumption)) | refine Below.drew ?_ | refine Below.allocE ?_ _ | refine Below.setCell ?_ (by dsimp only; omega) _))
        · (try dsimp only); exact ⟨_, rfl, Blk.new _ _ _, by have := hR'.size; simp only [World.drew] at this; omega⟩
        · (intro _ bb hbb; simp [blockOf] at hbb; subst hbb; simp)
      · intro vs wk hR hHeld hF K hK
        have hR' : Below _ _ _ := hR
        clear hF
        refine step_in (o := { dst := some 8, op := Op.alloc 112, type := 0, pos := _, after := #[], guard := none }) rfl ?_ hK
        clear hK K; intro K hK
        (try dsimp only at hK hHeld ⊢)
        generalize vs 1 = v1 at *
        generalize vs 3 = v3 at *
        generalize vs 4 = v4 at *
        generalize vs 5 = v5 at *
        (try simp only [Act.put, List.setIfInBounds_toArray, List.set_cons_zero, List.set_cons_succ] at hK ⊢)
        go_simp
        refine hK.out _ _ (show Below _ _ _ from ?_) ?_ ?_
        · (repeat (first | with_reducible exact Below.refl _ _ | with_reducible assumption | with_reducible exact And.left (by assumption) | with_reducible exact And.left (And.right (by assumption)) | with_reducible refine Below.setCell ?_ (by dsimp only; omega) _ | with_reducible refine Below.allocE ?_ _ | with_reducible refine Below.drew ?_ | exact Below.refl _ _ | assumption | exact And.left (by assumption) | exact And.left (And.right (by assumption)) | refine Below.drew ?_ | refine Below.allocE ?_ _ | refine Below.setCell ?_ (by dsimp only; omega) _))
        · (try dsimp only); exact ⟨_, rfl, Blk.new _ _ _, by have := hR'.size; simp only [World.drew] at this; omega⟩
        · (intro _ bb hbb; simp [blockOf] at hbb; subst hbb; simp)
    clear hHeld
    intro vs wk hR hHeld hSun hF
    have hne_4_5 := hSun.2 4 (by simp) 5 (by simp) (by simp) (by simp) (by decide)
    clear hSun
    have hR' : Below _ _ _ := hR
    have h1 : (fun v w' => ∃ g, v = .agg #[.int .i64 s.first, .slice A s.vals.length c, .slice A' s.holes.length c', .slice (some ⟨g, 0, none⟩) s.vals.length s.vals.length] ∧ Blk w' g 4 (bools (knS s.vals.length s.holes)).toArray) (vs 1) wk := hF 1 (by simp)
    have h3 : (fun v w' => ∃ g, v = .agg #[.int .i64 t.first, .slice D t.vals.length d, .slice D' t.holes.length d', .slice (some ⟨g, 0, none⟩) t.vals.length t.vals.length] ∧ Blk w' g 4 (bools (knS t.vals.length t.holes)).toArray) (vs 3) wk := hF 3 (by simp)
    have h4 : (fun v w' => ∃ g, v = .pointer (some ⟨g, 0, none⟩) ∧ Blk w' g 112 #[.int .i64 0, .slice none 0 0, .slice none 0 0, .slice none 0 0] ∧ X.heap.size ≤ g) (vs 4) wk := hF 4 (by simp)
    have h5 : (fun v w' => ∃ g, v = .pointer (some ⟨g, 0, none⟩) ∧ Blk w' g 112 #[.int .i64 0, .slice none 0 0, .slice none 0 0, .slice none 0 0] ∧ X.heap.size ≤ g) (vs 5) wk := hF 5 (by simp)
    clear hF
    (try dsimp only at h1)
    (try dsimp only at h3)
    (try dsimp only at h4)
    (try dsimp only at h5)
    (try dsimp only at hHeld ⊢)
    generalize vs 1 = v1 at *
    generalize vs 3 = v3 at *
    generalize vs 4 = v4 at *
    generalize vs 5 = v5 at *
    (try simp only [Act.put, List.setIfInBounds_toArray, List.set_cons_zero, List.set_cons_succ])
    obtain ⟨ka, rfl, kka⟩ := h1
    obtain ⟨kb, rfl, kkb⟩ := h3
    obtain ⟨ga, rfl, kga, lga⟩ := h4
    obtain ⟨gb, rfl, kgb, lgb⟩ := h5
    have hne_4_5 := hne_4_5 _ _ rfl rfl
    refine wpAnyH_ready (rs := [6]) (by kernel_rfl) (by simp) ?_
    refine AllReadyH.cons (o := { dst := none, op := Op.store 112 (Operand.tmp 7) (Operand.tmp 29), type := 0, pos := _, after := #[{ on := 4, ground := Ground.data }, { on := 1, ground := Ground.data }, { on := 3, ground := Ground.chain }, { on := 0, ground := Ground.phase }, { on := 1, ground := Ground.phase }, { on := 2, ground := Ground.textOnly Departure.lateStores }, { on := 3, ground := Ground.textOnly Departure.lateStoresUnsure }, { on := 4, ground := Ground.phase }, { on := 5, ground := Ground.phase }], guard := none }) rfl (fun K hK => ?_) AllReadyH.nil
    (first | (have q0 := kga.c 0 _ rfl; have q1 := kga.c 1 _ rfl; have q2 := kga.c 2 _ rfl; have q4 := kga.c 3 _ rfl; have q5 := kga.frozen; have e1 : w.heap.size ≠ ga := (by omega); have e2 : w.heap.size + 1 ≠ ga := (by omega); have e3 := e1.symm; have e4 := e2.symm; have e5 : w.heap.size ≠ gb := (by omega); have e6 : w.heap.size + 1 ≠ gb := (by omega); have e7 := e5.symm; have e8 := e6.symm; go_simp))
    refine hK.out _ _ ?_ (fun hNew => ?_)
    · (try dsimp only); ((repeat' apply And.intro) <;> first | go_keep  | (repeat (first | with_reducible exact Below.refl _ _ | with_reducible assumption | with_reducible exact And.left (by assumption) | with_reducible exact And.left (And.right (by assumption)) | with_reducible refine Below.setCell ?_ (by dsimp only; omega) _ | with_reducible refine Below.allocE ?_ _ | with_reducible refine Below.drew ?_ | exact Below.refl _ _ | assumption | exact And.left (by assumption) | exact And.left (And.right (by assumption)) | refine Below.drew ?_ | refine Below.allocE ?_ _ | refine Below.setCell ?_ (by dsimp only; omega) _)))
    clear hK K
    have hHeld := hNew
    clear hNew
    (try dsimp only at hHeld)
    (try simp only [Act.put, List.setIfInBounds_toArray, List.set_cons_zero, List.set_cons_succ])
    refine wpAnyH_ready (rs := [7]) (by kernel_rfl) (by simp) ?_
    refine AllReadyH.cons (o := { dst := none, op := Op.store 112 (Operand.tmp 8) (Operand.tmp 31), type := 0, pos := _, after := #[{ on := 5, ground := Ground.data }, { on := 3, ground := Ground.data }, { on := 6, ground := Ground.chain }, { on := 0, ground := Ground.phase }, { on := 1, ground := Ground.phase }, { on := 2, ground := Ground.phase }, { on := 3, ground := Ground.phase }, { on := 4, ground := Ground.phase }, { on := 5, ground := Ground.phase }, { on := 6, ground := Ground.phase }], guard := none }) rfl (fun K hK => ?_) AllReadyH.nil
    (first | (have kgb1 := (((kgb.far (p := ⟨ga, 0, none⟩) (Ne.symm hne_4_5) (.int .i64 s.first)).far (p := ⟨ga, 1, none⟩) (Ne.symm hne_4_5) (.slice A s.vals.length c)).far (p := ⟨ga, 2, none⟩) (Ne.symm hne_4_5) (.slice A' s.holes.length c')).far (p := ⟨ga, 3, none⟩) (Ne.symm hne_4_5) (.slice (some ⟨ka, 0, none⟩) s.vals.length s.vals.length); have z0 := kgb1.c 0 _ rfl; have z1 := kgb1.c 1 _ rfl; have z2 := kgb1.c 2 _ rfl; have z4 := kgb1.c 3 _ rfl; have z5 := kgb1.frozen; clear q0 q1 q2 q4 q5; go_simp))
    refine hK.out _ _ ?_ (fun hNew => ?_)
    · (try dsimp only); ((repeat' apply And.intro) <;> first | go_keep  | (repeat (first | with_reducible exact Below.refl _ _ | with_reducible assumption | with_reducible exact And.left (by assumption) | with_reducible exact And.left (And.right (by assumption)) | with_reducible refine Below.setCell ?_ (by dsimp only; omega) _ | with_reducible refine Below.allocE ?_ _ | with_reducible refine Below.drew ?_ | exact Below.refl _ _ | assumption | exact And.left (by assumption) | exact And.left (And.right (by assumption)) | refine Below.drew ?_ | refine Below.allocE ?_ _ | refine Below.setCell ?_ (by dsimp only; omega) _)))
    clear hK K
    have hHeld := hNew
    clear hNew
    (try dsimp only at hHeld)
    (try simp only [Act.put, List.setIfInBounds_toArray, List.set_cons_zero, List.set_cons_succ])
    refine wpAnyH_done (by kernel_rfl) ?_ _
    refine NoPanic.normal ?_
    have hBZ := hHeld.1
    have nka : ka ≠ ga := kka.ne_ kga (by decide)
    have nka' : ka ≠ gb := kka.ne_ kgb (by decide)
    have nkb : kb ≠ ga := kkb.ne_ kga (by decide)
    have nkb' : kb ≠ gb := kkb.ne_ kgb (by decide)
    have m3r := m3.drew.ext hR'
    have Za := far4 (blk4 kga (.int .i64 s.first) (.slice A s.vals.length c) (.slice A' s.holes.length c') (.slice (some ⟨ka, 0, none⟩) s.vals.length s.vals.length)) (g := gb) hne_4_5 (.int .i64 t.first) (.slice D t.vals.length d) (.slice D' t.holes.length d') (.slice (some ⟨kb, 0, none⟩) t.vals.length t.vals.length)
    have Zb := blk4 kgb1 (.int .i64 t.first) (.slice D t.vals.length d) (.slice D' t.holes.length d') (.slice (some ⟨kb, 0, none⟩) t.vals.length t.vals.length)
    have Zka := far4 (far4 kka (g := ga) nka (.int .i64 s.first) (.slice A s.vals.length c) (.slice A' s.holes.length c') (.slice (some ⟨ka, 0, none⟩) s.vals.length s.vals.length)) (g := gb) nka' (.int .i64 t.first) (.slice D t.vals.length d) (.slice D' t.holes.length d') (.slice (some ⟨kb, 0, none⟩) t.vals.length t.vals.length)
    have Zkb := far4 (far4 kkb (g := ga) nkb (.int .i64 s.first) (.slice A s.vals.length c) (.slice A' s.holes.length c') (.slice (some ⟨ka, 0, none⟩) s.vals.length s.vals.length)) (g := gb) nkb' (.int .i64 t.first) (.slice D t.vals.length d) (.slice D' t.holes.length d') (.slice (some ⟨kb, 0, none⟩) t.vals.length t.vals.length)
    have Z3 := far4 (far4 m3r (g := ga) (by omega) (.int .i64 s.first) (.slice A s.vals.length c) (.slice A' s.holes.length c') (.slice (some ⟨ka, 0, none⟩) s.vals.length s.vals.length)) (g := gb) (by omega) (.int .i64 t.first) (.slice D t.vals.length d) (.slice D' t.holes.length d') (.slice (some ⟨kb, 0, none⟩) t.vals.length t.vals.length)
    have Z1 := far4 (far4 (m1.drew.ext hR') (g := ga) (by omega) (.int .i64 s.first) (.slice A s.vals.length c) (.slice A' s.holes.length c') (.slice (some ⟨ka, 0, none⟩) s.vals.length s.vals.length)) (g := gb) (by omega) (.int .i64 t.first) (.slice D t.vals.length d) (.slice D' t.holes.length d') (.slice (some ⟨kb, 0, none⟩) t.vals.length t.vals.length)
    have Z2 := far4 (far4 (m2.drew.ext hR') (g := ga) (by omega) (.int .i64 s.first) (.slice A s.vals.length c) (.slice A' s.holes.length c') (.slice (some ⟨ka, 0, none⟩) s.vals.length s.vals.length)) (g := gb) (by omega) (.int .i64 t.first) (.slice D t.vals.length d) (.slice D' t.holes.length d') (.slice (some ⟨kb, 0, none⟩) t.vals.length t.vals.length)
    clear hHeld z0 z1 z2 z4 z5 kgb1 kga kgb kka kkb m3r hR hR' u0 u1 u2 u3 u4 u5
    generalize World.setCell (World.setCell (World.setCell (World.setCell (World.setCell (World.setCell (World.setCell (World.setCell wk _ _) _ _) _ _) _ _) _ _) _ _) _ _) _ _ = Z at *
    have y0 := Z1.c 0 _ rfl
    have y1 := Z1.c 1 _ rfl
    have hzl := Z3.lt
    have hzs : w.heap.size < Z.heap.size := Z1.lt
    go_wp2
    go_loopw [38] (fun i wr => ∃ k : Nat, k ≤ s.vals.length ∧ i = .int .i64 k ∧ (∃ vo ho, OutAt wr Z.heap.size Z.heap.size s.first (addAll ((sumsS s t).take k)).1 (addAll ((sumsS s t).take k)).2 vo ho) ∧ Below Z.heap.size Z wr ∧ ((sumsS s t).take k).any badS = false) (fun i _ => s.vals.length - (intOf i).toNat)
    case atStart => exact ⟨0, by omega, rfl, ⟨_, _, Blk.new _ _ _, World.ownsRow_nil _ _ _ _, World.ownsRow_nil _ _ _ _, by simp⟩, Below.allocE (Below.refl _ _) _, rfl⟩
    case round =>
      obtain ⟨k, hk, rfl, ⟨vo, ho, hout⟩, hBw, hbad⟩ := hrel
      have HOUT := Lib.hid hout
      have HBAD := Lib.hid hbad
      clear hout hbad
      by_cases hlt : k < s.vals.length
      · have hlt' : k < t.vals.length := by rw [← HAL.out.2]; exact hlt
        have hBx : Below w.heap.size w wr := Below.ext hBZ hBw
        obtain ⟨ad, rfl, hadb, hca⟩ := (h.1.below hBx).int_at hlt
        obtain ⟨ad', rfl, hadb', hcb⟩ := (h'.1.below hBx).int_at hlt'
        have hvx := ok1.val _ (List.getElem_mem hlt)
        have hvy := ok2.val _ (List.getElem_mem hlt')
        obtain ⟨x, hx⟩ : ∃ x, s.vals[k] = x := ⟨_, rfl⟩
        obtain ⟨y, hy⟩ : ∃ y, t.vals[k] = y := ⟨_, rfl⟩
        have hq1 : k < (knS s.vals.length s.holes).length := by rw [knS_len]; exact hlt
        have hq2 : k < (knS t.vals.length t.holes).length := by rw [knS_len]; exact hlt'
        obtain ⟨b1, hb1⟩ : ∃ b, (knS s.vals.length s.holes)[k] = b := ⟨_, rfl⟩
        obtain ⟨b2, hb2q⟩ : ∃ b, (knS t.vals.length t.holes)[k] = b := ⟨_, rfl⟩
        have hat : (sumsS s t)[k]? = some (x + y, b1 && b2) := by
          rw [sumsS_at s t k hlt hlt', hx, hy, List.getElem?_eq_getElem hq1, List.getElem?_eq_getElem hq2, hb1, hb2q]; rfl
        have f1 : wr.cell? ⟨ka, k, none⟩ = some (.bool b1) := (Zka.ext hBw).c k _ (by simp [bools, hq1, hb1])
        have f2 : wr.cell? ⟨kb, k, none⟩ = some (.bool b2) := (Zkb.ext hBw).c k _ (by simp [bools, hq2, hb2q])
        have f3 := (Za.ext hBw).c 3 _ rfl
        have f4 := (Zb.ext hBw).c 3 _ rfl
        have f5 := (Z1.ext hBw).c 1 _ rfl
        have f6 := (Z2.ext hBw).c 1 _ rfl
        rw [hx] at hca hvx
        rw [hy] at hcb hvy
        have g1 : IntKind.i64.wrap (x + y) = x + y := IntWalk.i64_in _ (by omega)
        have HAT := Lib.hid hat
        have htk : (sumsS s t).take (k + 1) = (sumsS s t).take k ++ [(x + y, b1 && b2)] := by
          rw [List.take_add_one, hat]; rfl
        have HTK := Lib.hid htk
        clear hx hy hb1 hb2q hat htk hq1 hq2
        cases b1
        case false =>
          go_wp2
          refine wp_region_noPanic ?_
          refine wp_region_held_drew (S := fun w' => w' = wr.drew) (by kernel_rfl) ?_ (fun hHeld => ?_)
          · first | exact rfl | ((try dsimp only); ((repeat' apply And.intro) <;> first | go_keep  | (repeat (first | with_reducible exact Below.refl _ _ | with_reducible assumption | with_reducible exact And.left (by assumption) | with_reducible exact And.left (And.right (by assumption)) | with_reducible refine Below.setCell ?_ (by dsimp only; omega) _ | with_reducible refine Below.allocE ?_ _ | with_reducible refine Below.drew ?_ | exact Below.refl _ _ | assumption | exact And.left (by assumption) | exact And.left (And.right (by assumption)) | refine Below.drew ?_ | refine Below.allocE ?_ _ | refine Below.setCell ?_ (by dsimp only; omega) _))))
          refine wpAnyH_take (i := 0) (oi := { dst := some 41, op := Op.fieldAddr 30 (Operand.tmp 2) 1, type := 0, pos := _, after := #[], guard := none }) (v := ?_) rfl (by kernel_rfl) (by kernel_rfl) (by kernel_rfl) (fun _ _ _ h => h) (Or.inl ⟨by rfl, ?_⟩) (by assumption) ?_
          rotate_left 1
          · (intro w hSw; (try dsimp only at hSw); go_simp; (try with_reducible rfl))
          (try simp only [Act.put, List.setIfInBounds_toArray, List.set_cons_zero, List.set_cons_succ])
          refine wpAnyH_take (i := 1) (oi := { dst := some 42, op := Op.load 24 (Operand.tmp 41), type := 24, pos := _, after := #[{ on := 0, ground := Ground.data }], guard := none }) (v := ?_) rfl (by kernel_rfl) (by kernel_rfl) (by kernel_rfl) (fun _ _ _ h => h) (Or.inl ⟨by rfl, ?_⟩) (by assumption) ?_
          rotate_left 1
          · (intro w hSw; (try dsimp only at hSw); go_simp; (try with_reducible rfl))
          (try simp only [Act.put, List.setIfInBounds_toArray, List.set_cons_zero, List.set_cons_succ])
          refine wpAnyH_take (i := 2) (oi := { dst := some 43, op := Op.move (Operand.tmp 10), type := 3, pos := _, after := #[], guard := none }) (v := ?_) rfl (by kernel_rfl) (by kernel_rfl) (by kernel_rfl) (fun _ _ _ h => h) (Or.inl ⟨by rfl, ?_⟩) (by assumption) ?_
          rotate_left 1
          · (intro w hSw; (try dsimp only at hSw); go_simp; (try with_reducible rfl))
          (try simp only [Act.put, List.setIfInBounds_toArray, List.set_cons_zero, List.set_cons_succ])
          refine wpAnyH_take (i := 3) (oi := { dst := some 44, op := Op.indexAddr 24 (Operand.tmp 42) (Operand.tmp 43), type := 0, pos := _, after := #[{ on := 1, ground := Ground.data }, { on := 2, ground := Ground.data }], guard := none }) (v := ?_) rfl (by kernel_rfl) (by kernel_rfl) (by kernel_rfl) (fun _ _ _ h => h) (Or.inl ⟨by rfl, ?_⟩) (by assumption) ?_
          rotate_left 1
          · (intro w hSw; (try dsimp only at hSw); go_simp; (try with_reducible rfl))
          (try simp only [Act.put, List.setIfInBounds_toArray, List.set_cons_zero, List.set_cons_succ])
          refine wpAnyH_take (i := 4) (oi := { dst := some 45, op := Op.load 3 (Operand.tmp 44), type := 3, pos := _, after := #[{ on := 3, ground := Ground.data }], guard := none }) (v := ?_) rfl (by kernel_rfl) (by kernel_rfl) (by kernel_rfl) (fun _ _ _ h => h) (Or.inl ⟨by rfl, ?_⟩) (by assumption) ?_
          rotate_left 1
          · (intro w hSw; (try dsimp only at hSw); go_simp; (try with_reducible rfl))
          (try simp only [Act.put, List.setIfInBounds_toArray, List.set_cons_zero, List.set_cons_succ])
          refine wpAnyH_take (i := 5) (oi := { dst := some 46, op := Op.fieldAddr 30 (Operand.tmp 3) 1, type := 0, pos := _, after := #[], guard := none }) (v := ?_) rfl (by kernel_rfl) (by kernel_rfl) (by kernel_rfl) (fun _ _ _ h => h) (Or.inl ⟨by rfl, ?_⟩) (by assumption) ?_
          rotate_left 1
          · (intro w hSw; (try dsimp only at hSw); go_simp; (try with_reducible rfl))
          (try simp only [Act.put, List.setIfInBounds_toArray, List.set_cons_zero, List.set_cons_succ])
          refine wpAnyH_take (i := 6) (oi := { dst := some 47, op := Op.load 24 (Operand.tmp 46), type := 24, pos := _, after := #[{ on := 5, ground := Ground.data }], guard := none }) (v := ?_) rfl (by kernel_rfl) (by kernel_rfl) (by kernel_rfl) (fun _ _ _ h => h) (Or.inl ⟨by rfl, ?_⟩) (by assumption) ?_
          rotate_left 1
          · (intro w hSw; (try dsimp only at hSw); go_simp; (try with_reducible rfl))
          (try simp only [Act.put, List.setIfInBounds_toArray, List.set_cons_zero, List.set_cons_succ])
          refine wpAnyH_take (i := 7) (oi := { dst := some 48, op := Op.move (Operand.tmp 10), type := 3, pos := _, after := #[], guard := none }) (v := ?_) rfl (by kernel_rfl) (by kernel_rfl) (by kernel_rfl) (fun _ _ _ h => h) (Or.inl ⟨by rfl, ?_⟩) (by assumption) ?_
          rotate_left 1
          · (intro w hSw; (try dsimp only at hSw); go_simp; (try with_reducible rfl))
          (try simp only [Act.put, List.setIfInBounds_toArray, List.set_cons_zero, List.set_cons_succ])
          refine wpAnyH_take (i := 8) (oi := { dst := some 49, op := Op.indexAddr 24 (Operand.tmp 47) (Operand.tmp 48), type := 0, pos := _, after := #[{ on := 6, ground := Ground.data }, { on := 7, ground := Ground.data }], guard := none }) (v := ?_) rfl (by kernel_rfl) (by kernel_rfl) (by kernel_rfl) (fun _ _ _ h => h) (Or.inl ⟨by rfl, ?_⟩) (by assumption) ?_
          rotate_left 1
          · (intro w hSw; (try dsimp only at hSw); go_simp; (try with_reducible rfl))
          (try simp only [Act.put, List.setIfInBounds_toArray, List.set_cons_zero, List.set_cons_succ])
          refine wpAnyH_take (i := 9) (oi := { dst := some 50, op := Op.load 3 (Operand.tmp 49), type := 3, pos := _, after := #[{ on := 8, ground := Ground.data }], guard := none }) (v := ?_) rfl (by kernel_rfl) (by kernel_rfl) (by kernel_rfl) (fun _ _ _ h => h) (Or.inl ⟨by rfl, ?_⟩) (by assumption) ?_
          rotate_left 1
          · (intro w hSw; (try dsimp only at hSw); go_simp; (try with_reducible rfl))
          (try simp only [Act.put, List.setIfInBounds_toArray, List.set_cons_zero, List.set_cons_succ])
          refine wpAnyH_take (i := 10) (oi := { dst := some 51, op := Op.binOp BinOp.add 3 (Operand.tmp 45) (Operand.tmp 50) 3, type := 3, pos := _, after := #[{ on := 4, ground := Ground.data }, { on := 9, ground := Ground.data }], guard := none }) (v := ?_) rfl (by kernel_rfl) (by kernel_rfl) (by kernel_rfl) (fun _ _ _ h => h) (Or.inl ⟨by rfl, ?_⟩) (by assumption) ?_
          rotate_left 1
          · (intro w hSw; (try dsimp only at hSw); go_simp; (try with_reducible rfl))
          (try simp only [Act.put, List.setIfInBounds_toArray, List.set_cons_zero, List.set_cons_succ])
          refine wpAnyH_take (i := 11) (oi := { dst := some 52, op := Op.fieldAddr 112 (Operand.tmp 7) 1, type := 0, pos := _, after := #[], guard := none }) (v := ?_) rfl (by kernel_rfl) (by kernel_rfl) (by kernel_rfl) (fun _ _ _ h => h) (Or.inl ⟨by rfl, ?_⟩) (by assumption) ?_
          rotate_left 1
          · (intro w hSw; (try dsimp only at hSw); go_simp; (try with_reducible rfl))
          (try simp only [Act.put, List.setIfInBounds_toArray, List.set_cons_zero, List.set_cons_succ])
          refine wpAnyH_take (i := 12) (oi := { dst := some 53, op := Op.load 93 (Operand.tmp 52), type := 93, pos := _, after := #[{ on := 11, ground := Ground.data }], guard := none }) (v := ?_) rfl (by kernel_rfl) (by kernel_rfl) (by kernel_rfl) (fun _ _ _ h => h) (Or.inl ⟨by rfl, ?_⟩) (by assumption) ?_
          rotate_left 1
          · (intro w hSw; (try dsimp only at hSw); go_simp; (try with_reducible rfl))
          (try simp only [Act.put, List.setIfInBounds_toArray, List.set_cons_zero, List.set_cons_succ])
          refine wpAnyH_take (i := 13) (oi := { dst := some 54, op := Op.move (Operand.tmp 10), type := 3, pos := _, after := #[], guard := none }) (v := ?_) rfl (by kernel_rfl) (by kernel_rfl) (by kernel_rfl) (fun _ _ _ h => h) (Or.inl ⟨by rfl, ?_⟩) (by assumption) ?_
          rotate_left 1
          · (intro w hSw; (try dsimp only at hSw); go_simp; (try with_reducible rfl))
          (try simp only [Act.put, List.setIfInBounds_toArray, List.set_cons_zero, List.set_cons_succ])
          refine wpAnyH_take (i := 14) (oi := { dst := some 55, op := Op.indexAddr 93 (Operand.tmp 53) (Operand.tmp 54), type := 0, pos := _, after := #[{ on := 12, ground := Ground.data }, { on := 13, ground := Ground.data }], guard := none }) (v := ?_) rfl (by kernel_rfl) (by kernel_rfl) (by kernel_rfl) (fun _ _ _ h => h) (Or.inl ⟨by rfl, ?_⟩) (by assumption) ?_
          rotate_left 1
          · (intro w hSw; (try dsimp only at hSw); go_simp; (try with_reducible rfl))
          (try simp only [Act.put, List.setIfInBounds_toArray, List.set_cons_zero, List.set_cons_succ])
          refine wpAnyH_take (i := 15) (oi := { dst := some 56, op := Op.load 4 (Operand.tmp 55), type := 4, pos := _, after := #[{ on := 14, ground := Ground.data }], guard := none }) (v := ?_) rfl (by kernel_rfl) (by kernel_rfl) (by kernel_rfl) (fun _ _ _ h => h) (Or.inl ⟨by rfl, ?_⟩) (by assumption) ?_
          rotate_left 1
          · (intro w hSw; (try dsimp only at hSw); go_simp; (try with_reducible rfl))
          (try simp only [Act.put, List.setIfInBounds_toArray, List.set_cons_zero, List.set_cons_succ])
          refine wpAnyH_take (i := 16) (oi := { dst := some 57, op := Op.move (Operand.tmp 56), type := 4, pos := _, after := #[{ on := 15, ground := Ground.data }], guard := none }) (v := ?_) rfl (by kernel_rfl) (by kernel_rfl) (by kernel_rfl) (fun _ _ _ h => h) (Or.inl ⟨by rfl, ?_⟩) (by assumption) ?_
          rotate_left 1
          · (intro w hSw; (try dsimp only at hSw); go_simp; (try with_reducible rfl))
          (try simp only [Act.put, List.setIfInBounds_toArray, List.set_cons_zero, List.set_cons_succ])
          refine wpAnyH_take (i := 17) (oi := { dst := some 58, op := Op.fieldAddr 112 (Operand.tmp 8) 1, type := 0, pos := _, after := #[{ on := 16, ground := Ground.guard }, { on := 23, ground := Ground.gcOnly Departure.lateStores }], guard := some (16, true) }) (v := undef) rfl (by kernel_rfl) (by kernel_rfl) (by kernel_rfl) (fun _ _ _ h => h) (Or.inr ⟨by rfl, rfl⟩) (by assumption) ?_
          (try simp only [Act.put, List.setIfInBounds_toArray, List.set_cons_zero, List.set_cons_succ])
          refine wpAnyH_take (i := 18) (oi := { dst := some 59, op := Op.load 93 (Operand.tmp 58), type := 93, pos := _, after := #[{ on := 17, ground := Ground.data }, { on := 16, ground := Ground.guard }, { on := 23, ground := Ground.gcOnly Departure.lateStores }], guard := some (16, true) }) (v := undef) rfl (by kernel_rfl) (by kernel_rfl) (by kernel_rfl) (fun _ _ _ h => h) (Or.inr ⟨by rfl, rfl⟩) (by assumption) ?_
          (try simp only [Act.put, List.setIfInBounds_toArray, List.set_cons_zero, List.set_cons_succ])
          refine wpAnyH_take (i := 19) (oi := { dst := some 60, op := Op.move (Operand.tmp 10), type := 3, pos := _, after := #[{ on := 16, ground := Ground.guard }, { on := 23, ground := Ground.gcOnly Departure.lateStores }], guard := some (16, true) }) (v := undef) rfl (by kernel_rfl) (by kernel_rfl) (by kernel_rfl) (fun _ _ _ h => h) (Or.inr ⟨by rfl, rfl⟩) (by assumption) ?_
          (try simp only [Act.put, List.setIfInBounds_toArray, List.set_cons_zero, List.set_cons_succ])
          refine wpAnyH_take (i := 20) (oi := { dst := some 61, op := Op.indexAddr 93 (Operand.tmp 59) (Operand.tmp 60), type := 0, pos := _, after := #[{ on := 18, ground := Ground.data }, { on := 19, ground := Ground.data }, { on := 16, ground := Ground.guard }, { on := 23, ground := Ground.gcOnly Departure.lateStores }], guard := some (16, true) }) (v := undef) rfl (by kernel_rfl) (by kernel_rfl) (by kernel_rfl) (fun _ _ _ h => h) (Or.inr ⟨by rfl, rfl⟩) (by assumption) ?_
          (try simp only [Act.put, List.setIfInBounds_toArray, List.set_cons_zero, List.set_cons_succ])
          refine wpAnyH_take (i := 21) (oi := { dst := some 62, op := Op.load 4 (Operand.tmp 61), type := 4, pos := _, after := #[{ on := 20, ground := Ground.data }, { on := 16, ground := Ground.guard }, { on := 23, ground := Ground.gcOnly Departure.lateStores }], guard := some (16, true) }) (v := undef) rfl (by kernel_rfl) (by kernel_rfl) (by kernel_rfl) (fun _ _ _ h => h) (Or.inr ⟨by rfl, rfl⟩) (by assumption) ?_
          (try simp only [Act.put, List.setIfInBounds_toArray, List.set_cons_zero, List.set_cons_succ])
          refine wpAnyH_take (i := 22) (oi := { dst := some 63, op := Op.pick (Operand.tmp 57) (Operand.tmp 62) (Operand.const (Value.bool false)), type := 4, pos := _, after := #[{ on := 16, ground := Ground.data }, { on := 21, ground := Ground.data }, { on := 23, ground := Ground.gcOnly Departure.lateStores }], guard := none }) (v := ?_) rfl (by kernel_rfl) (by kernel_rfl) (by kernel_rfl) (fun _ _ _ h => h) (Or.inl ⟨by rfl, ?_⟩) (by assumption) ?_
          rotate_left 1
          · (intro w hSw; (try dsimp only at hSw); go_simp; (try with_reducible rfl))
          (try simp only [Act.put, List.setIfInBounds_toArray, List.set_cons_zero, List.set_cons_succ])
          refine wpAnyH_take (i := 23) (oi := { dst := some 11, op := Op.assign (Operand.tmp 51), type := 3, pos := _, after := #[{ on := 10, ground := Ground.data }, { on := 16, ground := Ground.chain }, { on := 0, ground := Ground.phase }, { on := 1, ground := Ground.phase }, { on := 2, ground := Ground.phase }, { on := 3, ground := Ground.phase }, { on := 4, ground := Ground.phase }, { on := 5, ground := Ground.phase }, { on := 6, ground := Ground.phase }, { on := 7, ground := Ground.phase }, { on := 8, ground := Ground.phase }, { on := 9, ground := Ground.phase }, { on := 10, ground := Ground.phase }, { on := 11, ground := Ground.textOnly Departure.lateStores }, { on := 12, ground := Ground.textOnly Departure.lateStores }, { on := 13, ground := Ground.textOnly Departure.lateStores }, { on := 14, ground := Ground.textOnly Departure.lateStores }, { on := 15, ground := Ground.textOnly Departure.lateStores }, { on := 16, ground := Ground.textOnly Departure.lateStores }, { on := 17, ground := Ground.textOnly Departure.lateStores }, { on := 18, ground := Ground.textOnly Departure.lateStores }, { on := 19, ground := Ground.textOnly Departure.lateStores }, { on := 20, ground := Ground.textOnly Departure.lateStores }, { on := 21, ground := Ground.textOnly Departure.lateStores }, { on := 22, ground := Ground.textOnly Departure.lateStores }], guard := none }) (v := ?_) rfl (by kernel_rfl) (by kernel_rfl) (by kernel_rfl) (fun _ _ _ h => h) (Or.inl ⟨by rfl, ?_⟩) (by assumption) ?_
          rotate_left 1
          · (intro w hSw; (try dsimp only at hSw); go_simp; (try with_reducible rfl))
          (try simp only [Act.put, List.setIfInBounds_toArray, List.set_cons_zero, List.set_cons_succ])
          refine wpAnyH_take (i := 24) (oi := { dst := some 12, op := Op.assign (Operand.tmp 63), type := 4, pos := _, after := #[{ on := 22, ground := Ground.data }, { on := 23, ground := Ground.chain }, { on := 0, ground := Ground.phase }, { on := 1, ground := Ground.phase }, { on := 2, ground := Ground.phase }, { on := 3, ground := Ground.phase }, { on := 4, ground := Ground.phase }, { on := 5, ground := Ground.phase }, { on := 6, ground := Ground.phase }, { on := 7, ground := Ground.phase }, { on := 8, ground := Ground.phase }, { on := 9, ground := Ground.phase }, { on := 10, ground := Ground.phase }, { on := 11, ground := Ground.phase }, { on := 12, ground := Ground.phase }, { on := 13, ground := Ground.phase }, { on := 14, ground := Ground.phase }, { on := 15, ground := Ground.phase }, { on := 16, ground := Ground.phase }, { on := 17, ground := Ground.phase }, { on := 18, ground := Ground.phase }, { on := 19, ground := Ground.phase }, { on := 20, ground := Ground.phase }, { on := 21, ground := Ground.phase }, { on := 22, ground := Ground.phase }, { on := 23, ground := Ground.phase }], guard := none }) (v := ?_) rfl (by kernel_rfl) (by kernel_rfl) (by kernel_rfl) (fun _ _ _ h => h) (Or.inl ⟨by rfl, ?_⟩) (by assumption) ?_
          rotate_left 1
          · (intro w hSw; (try dsimp only at hSw); go_simp; (try with_reducible rfl))
          (try simp only [Act.put, List.setIfInBounds_toArray, List.set_cons_zero, List.set_cons_succ])
          refine wpAnyH_done (by kernel_rfl) ?_ _
          refine NoPanic.normal ?_
          clear hHeld
          have hl2 := addAll_len ((sumsS s t).take k)
          have hl3 : ((sumsS s t).take k).length ≤ 4096 := by rw [List.length_take]; have := ok1.len; omega
          go_wp2_with fail
          refine (add_c Z.heap.size Z.heap.size s.first (x + y) false _ _ vo ho wr.drew (show OutAt wr.drew _ _ _ _ _ _ _ from HOUT.out) (by omega) (by omega)).mono ?_
          rintro e w3 ⟨rfl, vo', ho', hout3, htch⟩
          have HO3 := Lib.hid hout3
          have HT3 := Lib.hid htch
          clear hout3 htch
          go_wp2
          go_roundw
          case rel =>
            refine ⟨k + 1, by omega, by go_num, ⟨vo', ho', ?_⟩, ?_, ?_⟩
            · rw [HTK.out, addAll_snoc]; exact HO3.out
            · refine (Below.drew hBw).trans (HT3.out.below (B := Z.heap.size) hBw.size ?_)
              rintro k' hk' (h1 | h1 | h1)
              · omega
              · have := own_base HOUT.out.2.1 h1; omega
              · have := own_base HOUT.out.2.2.1 h1; omega
            · rw [HTK.out, List.any_append, HBAD.out]; rfl
          case measure => simp [intOf]; omega
        case true =>
          cases b2
          case false =>
            go_wp2
            refine wp_region_noPanic ?_
            refine wp_region_held_drew (S := fun w' => w' = wr.drew) (by kernel_rfl) ?_ (fun hHeld => ?_)
            · first | exact rfl | ((try dsimp only); ((repeat' apply And.intro) <;> first | go_keep  | (repeat (first | with_reducible exact Below.refl _ _ | with_reducible assumption | with_reducible exact And.left (by assumption) | with_reducible exact And.left (And.right (by assumption)) | with_reducible refine Below.setCell ?_ (by dsimp only; omega) _ | with_reducible refine Below.allocE ?_ _ | with_reducible refine Below.drew ?_ | exact Below.refl _ _ | assumption | exact And.left (by assumption) | exact And.left (And.right (by assumption)) | refine Below.drew ?_ | refine Below.allocE ?_ _ | refine Below.setCell ?_ (by dsimp only; omega) _))))
            refine wpAnyH_take (i := 0) (oi := { dst := some 41, op := Op.fieldAddr 30 (Operand.tmp 2) 1, type := 0, pos := _, after := #[], guard := none }) (v := ?_) rfl (by kernel_rfl) (by kernel_rfl) (by kernel_rfl) (fun _ _ _ h => h) (Or.inl ⟨by rfl, ?_⟩) (by assumption) ?_
            rotate_left 1
            · (intro w hSw; (try dsimp only at hSw); go_simp; (try with_reducible rfl))
            (try simp only [Act.put, List.setIfInBounds_toArray, List.set_cons_zero, List.set_cons_succ])
            refine wpAnyH_take (i := 1) (oi := { dst := some 42, op := Op.load 24 (Operand.tmp 41), type := 24, pos := _, after := #[{ on := 0, ground := Ground.data }], guard := none }) (v := ?_) rfl (by kernel_rfl) (by kernel_rfl) (by kernel_rfl) (fun _ _ _ h => h) (Or.inl ⟨by rfl, ?_⟩) (by assumption) ?_
            rotate_left 1
            · (intro w hSw; (try dsimp only at hSw); go_simp; (try with_reducible rfl))
            (try simp only [Act.put, List.setIfInBounds_toArray, List.set_cons_zero, List.set_cons_succ])
            refine wpAnyH_take (i := 2) (oi := { dst := some 43, op := Op.move (Operand.tmp 10), type := 3, pos := _, after := #[], guard := none }) (v := ?_) rfl (by kernel_rfl) (by kernel_rfl) (by kernel_rfl) (fun _ _ _ h => h) (Or.inl ⟨by rfl, ?_⟩) (by assumption) ?_
            rotate_left 1
            · (intro w hSw; (try dsimp only at hSw); go_simp; (try with_reducible rfl))
            (try simp only [Act.put, List.setIfInBounds_toArray, List.set_cons_zero, List.set_cons_succ])
            refine wpAnyH_take (i := 3) (oi := { dst := some 44, op := Op.indexAddr 24 (Operand.tmp 42) (Operand.tmp 43), type := 0, pos := _, after := #[{ on := 1, ground := Ground.data }, { on := 2, ground := Ground.data }], guard := none }) (v := ?_) rfl (by kernel_rfl) (by kernel_rfl) (by kernel_rfl) (fun _ _ _ h => h) (Or.inl ⟨by rfl, ?_⟩) (by assumption) ?_
            rotate_left 1
            · (intro w hSw; (try dsimp only at hSw); go_simp; (try with_reducible rfl))
            (try simp only [Act.put, List.setIfInBounds_toArray, List.set_cons_zero, List.set_cons_succ])
            refine wpAnyH_take (i := 4) (oi := { dst := some 45, op := Op.load 3 (Operand.tmp 44), type := 3, pos := _, after := #[{ on := 3, ground := Ground.data }], guard := none }) (v := ?_) rfl (by kernel_rfl) (by kernel_rfl) (by kernel_rfl) (fun _ _ _ h => h) (Or.inl ⟨by rfl, ?_⟩) (by assumption) ?_
            rotate_left 1
            · (intro w hSw; (try dsimp only at hSw); go_simp; (try with_reducible rfl))
            (try simp only [Act.put, List.setIfInBounds_toArray, List.set_cons_zero, List.set_cons_succ])
            refine wpAnyH_take (i := 5) (oi := { dst := some 46, op := Op.fieldAddr 30 (Operand.tmp 3) 1, type := 0, pos := _, after := #[], guard := none }) (v := ?_) rfl (by kernel_rfl) (by kernel_rfl) (by kernel_rfl) (fun _ _ _ h => h) (Or.inl ⟨by rfl, ?_⟩) (by assumption) ?_
            rotate_left 1
            · (intro w hSw; (try dsimp only at hSw); go_simp; (try with_reducible rfl))
            (try simp only [Act.put, List.setIfInBounds_toArray, List.set_cons_zero, List.set_cons_succ])
            refine wpAnyH_take (i := 6) (oi := { dst := some 47, op := Op.load 24 (Operand.tmp 46), type := 24, pos := _, after := #[{ on := 5, ground := Ground.data }], guard := none }) (v := ?_) rfl (by kernel_rfl) (by kernel_rfl) (by kernel_rfl) (fun _ _ _ h => h) (Or.inl ⟨by rfl, ?_⟩) (by assumption) ?_
            rotate_left 1
            · (intro w hSw; (try dsimp only at hSw); go_simp; (try with_reducible rfl))
            (try simp only [Act.put, List.setIfInBounds_toArray, List.set_cons_zero, List.set_cons_succ])
            refine wpAnyH_take (i := 7) (oi := { dst := some 48, op := Op.move (Operand.tmp 10), type := 3, pos := _, after := #[], guard := none }) (v := ?_) rfl (by kernel_rfl) (by kernel_rfl) (by kernel_rfl) (fun _ _ _ h => h) (Or.inl ⟨by rfl, ?_⟩) (by assumption) ?_
            rotate_left 1
            · (intro w hSw; (try dsimp only at hSw); go_simp; (try with_reducible rfl))
            (try simp only [Act.put, List.setIfInBounds_toArray, List.set_cons_zero, List.set_cons_succ])
            refine wpAnyH_take (i := 8) (oi := { dst := some 49, op := Op.indexAddr 24 (Operand.tmp 47) (Operand.tmp 48), type := 0, pos := _, after := #[{ on := 6, ground := Ground.data }, { on := 7, ground := Ground.data }], guard := none }) (v := ?_) rfl (by kernel_rfl) (by kernel_rfl) (by kernel_rfl) (fun _ _ _ h => h) (Or.inl ⟨by rfl, ?_⟩) (by assumption) ?_
            rotate_left 1
            · (intro w hSw; (try dsimp only at hSw); go_simp; (try with_reducible rfl))
            (try simp only [Act.put, List.setIfInBounds_toArray, List.set_cons_zero, List.set_cons_succ])
            refine wpAnyH_take (i := 9) (oi := { dst := some 50, op := Op.load 3 (Operand.tmp 49), type := 3, pos := _, after := #[{ on := 8, ground := Ground.data }], guard := none }) (v := ?_) rfl (by kernel_rfl) (by kernel_rfl) (by kernel_rfl) (fun _ _ _ h => h) (Or.inl ⟨by rfl, ?_⟩) (by assumption) ?_
            rotate_left 1
            · (intro w hSw; (try dsimp only at hSw); go_simp; (try with_reducible rfl))
            (try simp only [Act.put, List.setIfInBounds_toArray, List.set_cons_zero, List.set_cons_succ])
            refine wpAnyH_take (i := 10) (oi := { dst := some 51, op := Op.binOp BinOp.add 3 (Operand.tmp 45) (Operand.tmp 50) 3, type := 3, pos := _, after := #[{ on := 4, ground := Ground.data }, { on := 9, ground := Ground.data }], guard := none }) (v := ?_) rfl (by kernel_rfl) (by kernel_rfl) (by kernel_rfl) (fun _ _ _ h => h) (Or.inl ⟨by rfl, ?_⟩) (by assumption) ?_
            rotate_left 1
            · (intro w hSw; (try dsimp only at hSw); go_simp; (try with_reducible rfl))
            (try simp only [Act.put, List.setIfInBounds_toArray, List.set_cons_zero, List.set_cons_succ])
            refine wpAnyH_take (i := 11) (oi := { dst := some 52, op := Op.fieldAddr 112 (Operand.tmp 7) 1, type := 0, pos := _, after := #[], guard := none }) (v := ?_) rfl (by kernel_rfl) (by kernel_rfl) (by kernel_rfl) (fun _ _ _ h => h) (Or.inl ⟨by rfl, ?_⟩) (by assumption) ?_
            rotate_left 1
            · (intro w hSw; (try dsimp only at hSw); go_simp; (try with_reducible rfl))
            (try simp only [Act.put, List.setIfInBounds_toArray, List.set_cons_zero, List.set_cons_succ])
            refine wpAnyH_take (i := 12) (oi := { dst := some 53, op := Op.load 93 (Operand.tmp 52), type := 93, pos := _, after := #[{ on := 11, ground := Ground.data }], guard := none }) (v := ?_) rfl (by kernel_rfl) (by kernel_rfl) (by kernel_rfl) (fun _ _ _ h => h) (Or.inl ⟨by rfl, ?_⟩) (by assumption) ?_
            rotate_left 1
            · (intro w hSw; (try dsimp only at hSw); go_simp; (try with_reducible rfl))
            (try simp only [Act.put, List.setIfInBounds_toArray, List.set_cons_zero, List.set_cons_succ])
            refine wpAnyH_take (i := 13) (oi := { dst := some 54, op := Op.move (Operand.tmp 10), type := 3, pos := _, after := #[], guard := none }) (v := ?_) rfl (by kernel_rfl) (by kernel_rfl) (by kernel_rfl) (fun _ _ _ h => h) (Or.inl ⟨by rfl, ?_⟩) (by assumption) ?_
            rotate_left 1
            · (intro w hSw; (try dsimp only at hSw); go_simp; (try with_reducible rfl))
            (try simp only [Act.put, List.setIfInBounds_toArray, List.set_cons_zero, List.set_cons_succ])
            refine wpAnyH_take (i := 14) (oi := { dst := some 55, op := Op.indexAddr 93 (Operand.tmp 53) (Operand.tmp 54), type := 0, pos := _, after := #[{ on := 12, ground := Ground.data }, { on := 13, ground := Ground.data }], guard := none }) (v := ?_) rfl (by kernel_rfl) (by kernel_rfl) (by kernel_rfl) (fun _ _ _ h => h) (Or.inl ⟨by rfl, ?_⟩) (by assumption) ?_
            rotate_left 1
            · (intro w hSw; (try dsimp only at hSw); go_simp; (try with_reducible rfl))
            (try simp only [Act.put, List.setIfInBounds_toArray, List.set_cons_zero, List.set_cons_succ])
            refine wpAnyH_take (i := 15) (oi := { dst := some 56, op := Op.load 4 (Operand.tmp 55), type := 4, pos := _, after := #[{ on := 14, ground := Ground.data }], guard := none }) (v := ?_) rfl (by kernel_rfl) (by kernel_rfl) (by kernel_rfl) (fun _ _ _ h => h) (Or.inl ⟨by rfl, ?_⟩) (by assumption) ?_
            rotate_left 1
            · (intro w hSw; (try dsimp only at hSw); go_simp; (try with_reducible rfl))
            (try simp only [Act.put, List.setIfInBounds_toArray, List.set_cons_zero, List.set_cons_succ])
            refine wpAnyH_take (i := 16) (oi := { dst := some 57, op := Op.move (Operand.tmp 56), type := 4, pos := _, after := #[{ on := 15, ground := Ground.data }], guard := none }) (v := ?_) rfl (by kernel_rfl) (by kernel_rfl) (by kernel_rfl) (fun _ _ _ h => h) (Or.inl ⟨by rfl, ?_⟩) (by assumption) ?_
            rotate_left 1
            · (intro w hSw; (try dsimp only at hSw); go_simp; (try with_reducible rfl))
            (try simp only [Act.put, List.setIfInBounds_toArray, List.set_cons_zero, List.set_cons_succ])
            refine wpAnyH_take (i := 17) (oi := { dst := some 58, op := Op.fieldAddr 112 (Operand.tmp 8) 1, type := 0, pos := _, after := #[{ on := 16, ground := Ground.guard }, { on := 23, ground := Ground.gcOnly Departure.lateStores }], guard := some (16, true) }) (v := ?_) rfl (by kernel_rfl) (by kernel_rfl) (by kernel_rfl) (fun _ _ _ h => h) (Or.inl ⟨by rfl, ?_⟩) (by assumption) ?_
            rotate_left 1
            · (intro w hSw; (try dsimp only at hSw); go_simp; (try with_reducible rfl))
            (try simp only [Act.put, List.setIfInBounds_toArray, List.set_cons_zero, List.set_cons_succ])
            refine wpAnyH_take (i := 18) (oi := { dst := some 59, op := Op.load 93 (Operand.tmp 58), type := 93, pos := _, after := #[{ on := 17, ground := Ground.data }, { on := 16, ground := Ground.guard }, { on := 23, ground := Ground.gcOnly Departure.lateStores }], guard := some (16, true) }) (v := ?_) rfl (by kernel_rfl) (by kernel_rfl) (by kernel_rfl) (fun _ _ _ h => h) (Or.inl ⟨by rfl, ?_⟩) (by assumption) ?_
            rotate_left 1
            · (intro w hSw; (try dsimp only at hSw); go_simp; (try with_reducible rfl))
            (try simp only [Act.put, List.setIfInBounds_toArray, List.set_cons_zero, List.set_cons_succ])
            refine wpAnyH_take (i := 19) (oi := { dst := some 60, op := Op.move (Operand.tmp 10), type := 3, pos := _, after := #[{ on := 16, ground := Ground.guard }, { on := 23, ground := Ground.gcOnly Departure.lateStores }], guard := some (16, true) }) (v := ?_) rfl (by kernel_rfl) (by kernel_rfl) (by kernel_rfl) (fun _ _ _ h => h) (Or.inl ⟨by rfl, ?_⟩) (by assumption) ?_
            rotate_left 1
            · (intro w hSw; (try dsimp only at hSw); go_simp; (try with_reducible rfl))
            (try simp only [Act.put, List.setIfInBounds_toArray, List.set_cons_zero, List.set_cons_succ])
            refine wpAnyH_take (i := 20) (oi := { dst := some 61, op := Op.indexAddr 93 (Operand.tmp 59) (Operand.tmp 60), type := 0, pos := _, after := #[{ on := 18, ground := Ground.data }, { on := 19, ground := Ground.data }, { on := 16, ground := Ground.guard }, { on := 23, ground := Ground.gcOnly Departure.lateStores }], guard := some (16, true) }) (v := ?_) rfl (by kernel_rfl) (by kernel_rfl) (by kernel_rfl) (fun _ _ _ h => h) (Or.inl ⟨by rfl, ?_⟩) (by assumption) ?_
            rotate_left 1
            · (intro w hSw; (try dsimp only at hSw); go_simp; (try with_reducible rfl))
            (try simp only [Act.put, List.setIfInBounds_toArray, List.set_cons_zero, List.set_cons_succ])
            refine wpAnyH_take (i := 21) (oi := { dst := some 62, op := Op.load 4 (Operand.tmp 61), type := 4, pos := _, after := #[{ on := 20, ground := Ground.data }, { on := 16, ground := Ground.guard }, { on := 23, ground := Ground.gcOnly Departure.lateStores }], guard := some (16, true) }) (v := ?_) rfl (by kernel_rfl) (by kernel_rfl) (by kernel_rfl) (fun _ _ _ h => h) (Or.inl ⟨by rfl, ?_⟩) (by assumption) ?_
            rotate_left 1
            · (intro w hSw; (try dsimp only at hSw); go_simp; (try with_reducible rfl))
            (try simp only [Act.put, List.setIfInBounds_toArray, List.set_cons_zero, List.set_cons_succ])
            refine wpAnyH_take (i := 22) (oi := { dst := some 63, op := Op.pick (Operand.tmp 57) (Operand.tmp 62) (Operand.const (Value.bool false)), type := 4, pos := _, after := #[{ on := 16, ground := Ground.data }, { on := 21, ground := Ground.data }, { on := 23, ground := Ground.gcOnly Departure.lateStores }], guard := none }) (v := ?_) rfl (by kernel_rfl) (by kernel_rfl) (by kernel_rfl) (fun _ _ _ h => h) (Or.inl ⟨by rfl, ?_⟩) (by assumption) ?_
            rotate_left 1
            · (intro w hSw; (try dsimp only at hSw); go_simp; (try with_reducible rfl))
            (try simp only [Act.put, List.setIfInBounds_toArray, List.set_cons_zero, List.set_cons_succ])
            refine wpAnyH_take (i := 23) (oi := { dst := some 11, op := Op.assign (Operand.tmp 51), type := 3, pos := _, after := #[{ on := 10, ground := Ground.data }, { on := 16, ground := Ground.chain }, { on := 0, ground := Ground.phase }, { on := 1, ground := Ground.phase }, { on := 2, ground := Ground.phase }, { on := 3, ground := Ground.phase }, { on := 4, ground := Ground.phase }, { on := 5, ground := Ground.phase }, { on := 6, ground := Ground.phase }, { on := 7, ground := Ground.phase }, { on := 8, ground := Ground.phase }, { on := 9, ground := Ground.phase }, { on := 10, ground := Ground.phase }, { on := 11, ground := Ground.textOnly Departure.lateStores }, { on := 12, ground := Ground.textOnly Departure.lateStores }, { on := 13, ground := Ground.textOnly Departure.lateStores }, { on := 14, ground := Ground.textOnly Departure.lateStores }, { on := 15, ground := Ground.textOnly Departure.lateStores }, { on := 16, ground := Ground.textOnly Departure.lateStores }, { on := 17, ground := Ground.textOnly Departure.lateStores }, { on := 18, ground := Ground.textOnly Departure.lateStores }, { on := 19, ground := Ground.textOnly Departure.lateStores }, { on := 20, ground := Ground.textOnly Departure.lateStores }, { on := 21, ground := Ground.textOnly Departure.lateStores }, { on := 22, ground := Ground.textOnly Departure.lateStores }], guard := none }) (v := ?_) rfl (by kernel_rfl) (by kernel_rfl) (by kernel_rfl) (fun _ _ _ h => h) (Or.inl ⟨by rfl, ?_⟩) (by assumption) ?_
            rotate_left 1
            · (intro w hSw; (try dsimp only at hSw); go_simp; (try with_reducible rfl))
            (try simp only [Act.put, List.setIfInBounds_toArray, List.set_cons_zero, List.set_cons_succ])
            refine wpAnyH_take (i := 24) (oi := { dst := some 12, op := Op.assign (Operand.tmp 63), type := 4, pos := _, after := #[{ on := 22, ground := Ground.data }, { on := 23, ground := Ground.chain }, { on := 0, ground := Ground.phase }, { on := 1, ground := Ground.phase }, { on := 2, ground := Ground.phase }, { on := 3, ground := Ground.phase }, { on := 4, ground := Ground.phase }, { on := 5, ground := Ground.phase }, { on := 6, ground := Ground.phase }, { on := 7, ground := Ground.phase }, { on := 8, ground := Ground.phase }, { on := 9, ground := Ground.phase }, { on := 10, ground := Ground.phase }, { on := 11, ground := Ground.phase }, { on := 12, ground := Ground.phase }, { on := 13, ground := Ground.phase }, { on := 14, ground := Ground.phase }, { on := 15, ground := Ground.phase }, { on := 16, ground := Ground.phase }, { on := 17, ground := Ground.phase }, { on := 18, ground := Ground.phase }, { on := 19, ground := Ground.phase }, { on := 20, ground := Ground.phase }, { on := 21, ground := Ground.phase }, { on := 22, ground := Ground.phase }, { on := 23, ground := Ground.phase }], guard := none }) (v := ?_) rfl (by kernel_rfl) (by kernel_rfl) (by kernel_rfl) (fun _ _ _ h => h) (Or.inl ⟨by rfl, ?_⟩) (by assumption) ?_
            rotate_left 1
            · (intro w hSw; (try dsimp only at hSw); go_simp; (try with_reducible rfl))
            (try simp only [Act.put, List.setIfInBounds_toArray, List.set_cons_zero, List.set_cons_succ])
            refine wpAnyH_done (by kernel_rfl) ?_ _
            refine NoPanic.normal ?_
            clear hHeld
            have hl2 := addAll_len ((sumsS s t).take k)
            have hl3 : ((sumsS s t).take k).length ≤ 4096 := by rw [List.length_take]; have := ok1.len; omega
            go_wp2_with fail
            refine (add_c Z.heap.size Z.heap.size s.first (x + y) false _ _ vo ho wr.drew (show OutAt wr.drew _ _ _ _ _ _ _ from HOUT.out) (by omega) (by omega)).mono ?_
            rintro e w3 ⟨rfl, vo', ho', hout3, htch⟩
            have HO3 := Lib.hid hout3
            have HT3 := Lib.hid htch
            clear hout3 htch
            go_wp2
            go_roundw
            case rel =>
              refine ⟨k + 1, by omega, by go_num, ⟨vo', ho', ?_⟩, ?_, ?_⟩
              · rw [HTK.out, addAll_snoc]; exact HO3.out
              · refine (Below.drew hBw).trans (HT3.out.below (B := Z.heap.size) hBw.size ?_)
                rintro k' hk' (h1 | h1 | h1)
                · omega
                · have := own_base HOUT.out.2.1 h1; omega
                · have := own_base HOUT.out.2.2.1 h1; omega
              · rw [HTK.out, List.any_append, HBAD.out]; rfl
            case measure => simp [intOf]; omega
          case true =>
            go_wp2
            refine wp_region_noPanic ?_
            refine wp_region_held_drew (S := fun w' => w' = wr.drew) (by kernel_rfl) ?_ (fun hHeld => ?_)
            · first | exact rfl | ((try dsimp only); ((repeat' apply And.intro) <;> first | go_keep  | (repeat (first | with_reducible exact Below.refl _ _ | with_reducible assumption | with_reducible exact And.left (by assumption) | with_reducible exact And.left (And.right (by assumption)) | with_reducible refine Below.setCell ?_ (by dsimp only; omega) _ | with_reducible refine Below.allocE ?_ _ | with_reducible refine Below.drew ?_ | exact Below.refl _ _ | assumption | exact And.left (by assumption) | exact And.left (And.right (by assumption)) | refine Below.drew ?_ | refine Below.allocE ?_ _ | refine Below.setCell ?_ (by dsimp only; omega) _))))
            refine wpAnyH_take (i := 0) (oi := { dst := some 41, op := Op.fieldAddr 30 (Operand.tmp 2) 1, type := 0, pos := _, after := #[], guard := none }) (v := ?_) rfl (by kernel_rfl) (by kernel_rfl) (by kernel_rfl) (fun _ _ _ h => h) (Or.inl ⟨by rfl, ?_⟩) (by assumption) ?_
            rotate_left 1
            · (intro w hSw; (try dsimp only at hSw); go_simp; (try with_reducible rfl))
            (try simp only [Act.put, List.setIfInBounds_toArray, List.set_cons_zero, List.set_cons_succ])
            refine wpAnyH_take (i := 1) (oi := { dst := some 42, op := Op.load 24 (Operand.tmp 41), type := 24, pos := _, after := #[{ on := 0, ground := Ground.data }], guard := none }) (v := ?_) rfl (by kernel_rfl) (by kernel_rfl) (by kernel_rfl) (fun _ _ _ h => h) (Or.inl ⟨by rfl, ?_⟩) (by assumption) ?_
            rotate_left 1
            · (intro w hSw; (try dsimp only at hSw); go_simp; (try with_reducible rfl))
            (try simp only [Act.put, List.setIfInBounds_toArray, List.set_cons_zero, List.set_cons_succ])
            refine wpAnyH_take (i := 2) (oi := { dst := some 43, op := Op.move (Operand.tmp 10), type := 3, pos := _, after := #[], guard := none }) (v := ?_) rfl (by kernel_rfl) (by kernel_rfl) (by kernel_rfl) (fun _ _ _ h => h) (Or.inl ⟨by rfl, ?_⟩) (by assumption) ?_
            rotate_left 1
            · (intro w hSw; (try dsimp only at hSw); go_simp; (try with_reducible rfl))
            (try simp only [Act.put, List.setIfInBounds_toArray, List.set_cons_zero, List.set_cons_succ])
            refine wpAnyH_take (i := 3) (oi := { dst := some 44, op := Op.indexAddr 24 (Operand.tmp 42) (Operand.tmp 43), type := 0, pos := _, after := #[{ on := 1, ground := Ground.data }, { on := 2, ground := Ground.data }], guard := none }) (v := ?_) rfl (by kernel_rfl) (by kernel_rfl) (by kernel_rfl) (fun _ _ _ h => h) (Or.inl ⟨by rfl, ?_⟩) (by assumption) ?_
            rotate_left 1
            · (intro w hSw; (try dsimp only at hSw); go_simp; (try with_reducible rfl))
            (try simp only [Act.put, List.setIfInBounds_toArray, List.set_cons_zero, List.set_cons_succ])
            refine wpAnyH_take (i := 4) (oi := { dst := some 45, op := Op.load 3 (Operand.tmp 44), type := 3, pos := _, after := #[{ on := 3, ground := Ground.data }], guard := none }) (v := ?_) rfl (by kernel_rfl) (by kernel_rfl) (by kernel_rfl) (fun _ _ _ h => h) (Or.inl ⟨by rfl, ?_⟩) (by assumption) ?_
            rotate_left 1
            · (intro w hSw; (try dsimp only at hSw); go_simp; (try with_reducible rfl))
            (try simp only [Act.put, List.setIfInBounds_toArray, List.set_cons_zero, List.set_cons_succ])
            refine wpAnyH_take (i := 5) (oi := { dst := some 46, op := Op.fieldAddr 30 (Operand.tmp 3) 1, type := 0, pos := _, after := #[], guard := none }) (v := ?_) rfl (by kernel_rfl) (by kernel_rfl) (by kernel_rfl) (fun _ _ _ h => h) (Or.inl ⟨by rfl, ?_⟩) (by assumption) ?_
            rotate_left 1
            · (intro w hSw; (try dsimp only at hSw); go_simp; (try with_reducible rfl))
            (try simp only [Act.put, List.setIfInBounds_toArray, List.set_cons_zero, List.set_cons_succ])
            refine wpAnyH_take (i := 6) (oi := { dst := some 47, op := Op.load 24 (Operand.tmp 46), type := 24, pos := _, after := #[{ on := 5, ground := Ground.data }], guard := none }) (v := ?_) rfl (by kernel_rfl) (by kernel_rfl) (by kernel_rfl) (fun _ _ _ h => h) (Or.inl ⟨by rfl, ?_⟩) (by assumption) ?_
            rotate_left 1
            · (intro w hSw; (try dsimp only at hSw); go_simp; (try with_reducible rfl))
            (try simp only [Act.put, List.setIfInBounds_toArray, List.set_cons_zero, List.set_cons_succ])
            refine wpAnyH_take (i := 7) (oi := { dst := some 48, op := Op.move (Operand.tmp 10), type := 3, pos := _, after := #[], guard := none }) (v := ?_) rfl (by kernel_rfl) (by kernel_rfl) (by kernel_rfl) (fun _ _ _ h => h) (Or.inl ⟨by rfl, ?_⟩) (by assumption) ?_
            rotate_left 1
            · (intro w hSw; (try dsimp only at hSw); go_simp; (try with_reducible rfl))
            (try simp only [Act.put, List.setIfInBounds_toArray, List.set_cons_zero, List.set_cons_succ])
            refine wpAnyH_take (i := 8) (oi := { dst := some 49, op := Op.indexAddr 24 (Operand.tmp 47) (Operand.tmp 48), type := 0, pos := _, after := #[{ on := 6, ground := Ground.data }, { on := 7, ground := Ground.data }], guard := none }) (v := ?_) rfl (by kernel_rfl) (by kernel_rfl) (by kernel_rfl) (fun _ _ _ h => h) (Or.inl ⟨by rfl, ?_⟩) (by assumption) ?_
            rotate_left 1
            · (intro w hSw; (try dsimp only at hSw); go_simp; (try with_reducible rfl))
            (try simp only [Act.put, List.setIfInBounds_toArray, List.set_cons_zero, List.set_cons_succ])
            refine wpAnyH_take (i := 9) (oi := { dst := some 50, op := Op.load 3 (Operand.tmp 49), type := 3, pos := _, after := #[{ on := 8, ground := Ground.data }], guard := none }) (v := ?_) rfl (by kernel_rfl) (by kernel_rfl) (by kernel_rfl) (fun _ _ _ h => h) (Or.inl ⟨by rfl, ?_⟩) (by assumption) ?_
            rotate_left 1
            · (intro w hSw; (try dsimp only at hSw); go_simp; (try with_reducible rfl))
            (try simp only [Act.put, List.setIfInBounds_toArray, List.set_cons_zero, List.set_cons_succ])
            refine wpAnyH_take (i := 10) (oi := { dst := some 51, op := Op.binOp BinOp.add 3 (Operand.tmp 45) (Operand.tmp 50) 3, type := 3, pos := _, after := #[{ on := 4, ground := Ground.data }, { on := 9, ground := Ground.data }], guard := none }) (v := ?_) rfl (by kernel_rfl) (by kernel_rfl) (by kernel_rfl) (fun _ _ _ h => h) (Or.inl ⟨by rfl, ?_⟩) (by assumption) ?_
            rotate_left 1
            · (intro w hSw; (try dsimp only at hSw); go_simp; (try with_reducible rfl))
            (try simp only [Act.put, List.setIfInBounds_toArray, List.set_cons_zero, List.set_cons_succ])
            refine wpAnyH_take (i := 11) (oi := { dst := some 52, op := Op.fieldAddr 112 (Operand.tmp 7) 1, type := 0, pos := _, after := #[], guard := none }) (v := ?_) rfl (by kernel_rfl) (by kernel_rfl) (by kernel_rfl) (fun _ _ _ h => h) (Or.inl ⟨by rfl, ?_⟩) (by assumption) ?_
            rotate_left 1
            · (intro w hSw; (try dsimp only at hSw); go_simp; (try with_reducible rfl))
            (try simp only [Act.put, List.setIfInBounds_toArray, List.set_cons_zero, List.set_cons_succ])
            refine wpAnyH_take (i := 12) (oi := { dst := some 53, op := Op.load 93 (Operand.tmp 52), type := 93, pos := _, after := #[{ on := 11, ground := Ground.data }], guard := none }) (v := ?_) rfl (by kernel_rfl) (by kernel_rfl) (by kernel_rfl) (fun _ _ _ h => h) (Or.inl ⟨by rfl, ?_⟩) (by assumption) ?_
            rotate_left 1
            · (intro w hSw; (try dsimp only at hSw); go_simp; (try with_reducible rfl))
            (try simp only [Act.put, List.setIfInBounds_toArray, List.set_cons_zero, List.set_cons_succ])
            refine wpAnyH_take (i := 13) (oi := { dst := some 54, op := Op.move (Operand.tmp 10), type := 3, pos := _, after := #[], guard := none }) (v := ?_) rfl (by kernel_rfl) (by kernel_rfl) (by kernel_rfl) (fun _ _ _ h => h) (Or.inl ⟨by rfl, ?_⟩) (by assumption) ?_
            rotate_left 1
            · (intro w hSw; (try dsimp only at hSw); go_simp; (try with_reducible rfl))
            (try simp only [Act.put, List.setIfInBounds_toArray, List.set_cons_zero, List.set_cons_succ])
            refine wpAnyH_take (i := 14) (oi := { dst := some 55, op := Op.indexAddr 93 (Operand.tmp 53) (Operand.tmp 54), type := 0, pos := _, after := #[{ on := 12, ground := Ground.data }, { on := 13, ground := Ground.data }], guard := none }) (v := ?_) rfl (by kernel_rfl) (by kernel_rfl) (by kernel_rfl) (fun _ _ _ h => h) (Or.inl ⟨by rfl, ?_⟩) (by assumption) ?_
            rotate_left 1
            · (intro w hSw; (try dsimp only at hSw); go_simp; (try with_reducible rfl))
            (try simp only [Act.put, List.setIfInBounds_toArray, List.set_cons_zero, List.set_cons_succ])
            refine wpAnyH_take (i := 15) (oi := { dst := some 56, op := Op.load 4 (Operand.tmp 55), type := 4, pos := _, after := #[{ on := 14, ground := Ground.data }], guard := none }) (v := ?_) rfl (by kernel_rfl) (by kernel_rfl) (by kernel_rfl) (fun _ _ _ h => h) (Or.inl ⟨by rfl, ?_⟩) (by assumption) ?_
            rotate_left 1
            · (intro w hSw; (try dsimp only at hSw); go_simp; (try with_reducible rfl))
            (try simp only [Act.put, List.setIfInBounds_toArray, List.set_cons_zero, List.set_cons_succ])
            refine wpAnyH_take (i := 16) (oi := { dst := some 57, op := Op.move (Operand.tmp 56), type := 4, pos := _, after := #[{ on := 15, ground := Ground.data }], guard := none }) (v := ?_) rfl (by kernel_rfl) (by kernel_rfl) (by kernel_rfl) (fun _ _ _ h => h) (Or.inl ⟨by rfl, ?_⟩) (by assumption) ?_
            rotate_left 1
            · (intro w hSw; (try dsimp only at hSw); go_simp; (try with_reducible rfl))
            (try simp only [Act.put, List.setIfInBounds_toArray, List.set_cons_zero, List.set_cons_succ])
            refine wpAnyH_take (i := 17) (oi := { dst := some 58, op := Op.fieldAddr 112 (Operand.tmp 8) 1, type := 0, pos := _, after := #[{ on := 16, ground := Ground.guard }, { on := 23, ground := Ground.gcOnly Departure.lateStores }], guard := some (16, true) }) (v := ?_) rfl (by kernel_rfl) (by kernel_rfl) (by kernel_rfl) (fun _ _ _ h => h) (Or.inl ⟨by rfl, ?_⟩) (by assumption) ?_
            rotate_left 1
            · (intro w hSw; (try dsimp only at hSw); go_simp; (try with_reducible rfl))
            (try simp only [Act.put, List.setIfInBounds_toArray, List.set_cons_zero, List.set_cons_succ])
            refine wpAnyH_take (i := 18) (oi := { dst := some 59, op := Op.load 93 (Operand.tmp 58), type := 93, pos := _, after := #[{ on := 17, ground := Ground.data }, { on := 16, ground := Ground.guard }, { on := 23, ground := Ground.gcOnly Departure.lateStores }], guard := some (16, true) }) (v := ?_) rfl (by kernel_rfl) (by kernel_rfl) (by kernel_rfl) (fun _ _ _ h => h) (Or.inl ⟨by rfl, ?_⟩) (by assumption) ?_
            rotate_left 1
            · (intro w hSw; (try dsimp only at hSw); go_simp; (try with_reducible rfl))
            (try simp only [Act.put, List.setIfInBounds_toArray, List.set_cons_zero, List.set_cons_succ])
            refine wpAnyH_take (i := 19) (oi := { dst := some 60, op := Op.move (Operand.tmp 10), type := 3, pos := _, after := #[{ on := 16, ground := Ground.guard }, { on := 23, ground := Ground.gcOnly Departure.lateStores }], guard := some (16, true) }) (v := ?_) rfl (by kernel_rfl) (by kernel_rfl) (by kernel_rfl) (fun _ _ _ h => h) (Or.inl ⟨by rfl, ?_⟩) (by assumption) ?_
            rotate_left 1
            · (intro w hSw; (try dsimp only at hSw); go_simp; (try with_reducible rfl))
            (try simp only [Act.put, List.setIfInBounds_toArray, List.set_cons_zero, List.set_cons_succ])
            refine wpAnyH_take (i := 20) (oi := { dst := some 61, op := Op.indexAddr 93 (Operand.tmp 59) (Operand.tmp 60), type := 0, pos := _, after := #[{ on := 18, ground := Ground.data }, { on := 19, ground := Ground.data }, { on := 16, ground := Ground.guard }, { on := 23, ground := Ground.gcOnly Departure.lateStores }], guard := some (16, true) }) (v := ?_) rfl (by kernel_rfl) (by kernel_rfl) (by kernel_rfl) (fun _ _ _ h => h) (Or.inl ⟨by rfl, ?_⟩) (by assumption) ?_
            rotate_left 1
            · (intro w hSw; (try dsimp only at hSw); go_simp; (try with_reducible rfl))
            (try simp only [Act.put, List.setIfInBounds_toArray, List.set_cons_zero, List.set_cons_succ])
            refine wpAnyH_take (i := 21) (oi := { dst := some 62, op := Op.load 4 (Operand.tmp 61), type := 4, pos := _, after := #[{ on := 20, ground := Ground.data }, { on := 16, ground := Ground.guard }, { on := 23, ground := Ground.gcOnly Departure.lateStores }], guard := some (16, true) }) (v := ?_) rfl (by kernel_rfl) (by kernel_rfl) (by kernel_rfl) (fun _ _ _ h => h) (Or.inl ⟨by rfl, ?_⟩) (by assumption) ?_
            rotate_left 1
            · (intro w hSw; (try dsimp only at hSw); go_simp; (try with_reducible rfl))
            (try simp only [Act.put, List.setIfInBounds_toArray, List.set_cons_zero, List.set_cons_succ])
            refine wpAnyH_take (i := 22) (oi := { dst := some 63, op := Op.pick (Operand.tmp 57) (Operand.tmp 62) (Operand.const (Value.bool false)), type := 4, pos := _, after := #[{ on := 16, ground := Ground.data }, { on := 21, ground := Ground.data }, { on := 23, ground := Ground.gcOnly Departure.lateStores }], guard := none }) (v := ?_) rfl (by kernel_rfl) (by kernel_rfl) (by kernel_rfl) (fun _ _ _ h => h) (Or.inl ⟨by rfl, ?_⟩) (by assumption) ?_
            rotate_left 1
            · (intro w hSw; (try dsimp only at hSw); go_simp; (try with_reducible rfl))
            (try simp only [Act.put, List.setIfInBounds_toArray, List.set_cons_zero, List.set_cons_succ])
            refine wpAnyH_take (i := 23) (oi := { dst := some 11, op := Op.assign (Operand.tmp 51), type := 3, pos := _, after := #[{ on := 10, ground := Ground.data }, { on := 16, ground := Ground.chain }, { on := 0, ground := Ground.phase }, { on := 1, ground := Ground.phase }, { on := 2, ground := Ground.phase }, { on := 3, ground := Ground.phase }, { on := 4, ground := Ground.phase }, { on := 5, ground := Ground.phase }, { on := 6, ground := Ground.phase }, { on := 7, ground := Ground.phase }, { on := 8, ground := Ground.phase }, { on := 9, ground := Ground.phase }, { on := 10, ground := Ground.phase }, { on := 11, ground := Ground.textOnly Departure.lateStores }, { on := 12, ground := Ground.textOnly Departure.lateStores }, { on := 13, ground := Ground.textOnly Departure.lateStores }, { on := 14, ground := Ground.textOnly Departure.lateStores }, { on := 15, ground := Ground.textOnly Departure.lateStores }, { on := 16, ground := Ground.textOnly Departure.lateStores }, { on := 17, ground := Ground.textOnly Departure.lateStores }, { on := 18, ground := Ground.textOnly Departure.lateStores }, { on := 19, ground := Ground.textOnly Departure.lateStores }, { on := 20, ground := Ground.textOnly Departure.lateStores }, { on := 21, ground := Ground.textOnly Departure.lateStores }, { on := 22, ground := Ground.textOnly Departure.lateStores }], guard := none }) (v := ?_) rfl (by kernel_rfl) (by kernel_rfl) (by kernel_rfl) (fun _ _ _ h => h) (Or.inl ⟨by rfl, ?_⟩) (by assumption) ?_
            rotate_left 1
            · (intro w hSw; (try dsimp only at hSw); go_simp; (try with_reducible rfl))
            (try simp only [Act.put, List.setIfInBounds_toArray, List.set_cons_zero, List.set_cons_succ])
            refine wpAnyH_take (i := 24) (oi := { dst := some 12, op := Op.assign (Operand.tmp 63), type := 4, pos := _, after := #[{ on := 22, ground := Ground.data }, { on := 23, ground := Ground.chain }, { on := 0, ground := Ground.phase }, { on := 1, ground := Ground.phase }, { on := 2, ground := Ground.phase }, { on := 3, ground := Ground.phase }, { on := 4, ground := Ground.phase }, { on := 5, ground := Ground.phase }, { on := 6, ground := Ground.phase }, { on := 7, ground := Ground.phase }, { on := 8, ground := Ground.phase }, { on := 9, ground := Ground.phase }, { on := 10, ground := Ground.phase }, { on := 11, ground := Ground.phase }, { on := 12, ground := Ground.phase }, { on := 13, ground := Ground.phase }, { on := 14, ground := Ground.phase }, { on := 15, ground := Ground.phase }, { on := 16, ground := Ground.phase }, { on := 17, ground := Ground.phase }, { on := 18, ground := Ground.phase }, { on := 19, ground := Ground.phase }, { on := 20, ground := Ground.phase }, { on := 21, ground := Ground.phase }, { on := 22, ground := Ground.phase }, { on := 23, ground := Ground.phase }], guard := none }) (v := ?_) rfl (by kernel_rfl) (by kernel_rfl) (by kernel_rfl) (fun _ _ _ h => h) (Or.inl ⟨by rfl, ?_⟩) (by assumption) ?_
            rotate_left 1
            · (intro w hSw; (try dsimp only at hSw); go_simp; (try with_reducible rfl))
            (try simp only [Act.put, List.setIfInBounds_toArray, List.set_cons_zero, List.set_cons_succ])
            refine wpAnyH_done (by kernel_rfl) ?_ _
            refine NoPanic.normal ?_
            clear hHeld
            by_cases hrd : readingS (x + y) = 0
            · have hl2 := addAll_len ((sumsS s t).take k)
              have hl3 : ((sumsS s t).take k).length ≤ 4096 := by rw [List.length_take]; have := ok1.len; omega
              go_wp2_with (first | (go_at_call 99; refine (checkReading_c _ _).mono ?_; rintro e w' ⟨rfl, rfl⟩) | fail)
              refine (add_c Z.heap.size Z.heap.size s.first (x + y) true _ _ vo ho wr.drew (show OutAt wr.drew _ _ _ _ _ _ _ from HOUT.out) (by omega) (by omega)).mono ?_
              rintro e w3 ⟨rfl, vo', ho', hout3, htch⟩
              have HO3 := Lib.hid hout3
              have HT3 := Lib.hid htch
              clear hout3 htch
              go_wp2
              go_roundw
              case rel =>
                refine ⟨k + 1, by omega, by go_num, ⟨vo', ho', ?_⟩, ?_, ?_⟩
                · rw [HTK.out, addAll_snoc]; exact HO3.out
                · refine (Below.drew hBw).trans (HT3.out.below (B := Z.heap.size) hBw.size ?_)
                  rintro k' hk' (h1 | h1 | h1)
                  · omega
                  · have := own_base HOUT.out.2.1 h1; omega
                  · have := own_base HOUT.out.2.2.1 h1; omega
                · rw [HTK.out, List.any_append, HBAD.out]; simp [badS, hrd]
              case measure => simp [intOf]; omega
            · have m4 := Z3.ext hBw
              have m5 := m4.drew
              have hBV : Below w.heap.size w wr.drew := Below.drew hBx
              clear m4
              obtain ⟨V, hV⟩ : ∃ V, wr.drew = V := ⟨_, rfl⟩
              rw [hV] at m5 hBV ⊢
              have q0 := m5.c 0 _ rfl
              have q1 := m5.c 1 _ rfl
              have q2 := m5.c 2 _ rfl
              have q3 := m5.frozen
              clear hV
              have hspec : SumS s t = (⟨0, [], []⟩, 4) := by
                unfold SumS
                simp only [HE.out]
                rw [if_neg (by simp), if_pos (List.any_eq_true.2 ⟨_, List.mem_of_getElem? HAT.out, by simp [badS, hrd]⟩)]
              have HSP := Lib.hid hspec
              clear hspec
              go_wp2_with (first | (go_at_call 99; refine (checkReading_c _ _).mono ?_; rintro e w' ⟨rfl, rfl⟩) | fail)
              have m9 := blk_trace m5 (.int .i64 0) (.slice none 0 0) (.slice none 0 0)
              have p0 := m9.c 0 _ rfl
              have p1 := m9.c 1 _ rfl
              have p2 := m9.c 2 _ rfl
              clear q0 q1 q2 q3
              (try simp only [Exit.inBlock, Exit.then]); refine bodyPost_ret (v := .tuple #[trv 0 (.slice none 0 0) (.slice none 0 0), .int .i64 4]) (by simp [results, Tryd.results59, go_sem, p0, p1, p2, trv]) rfl ?_
              rw [HSP.out]
              exact tr_none 4 (by (repeat (first | with_reducible exact Below.refl _ _ | with_reducible assumption | with_reducible exact And.left (by assumption) | with_reducible exact And.left (And.right (by assumption)) | with_reducible refine Below.setCell ?_ (by dsimp only; omega) _ | with_reducible refine Below.allocE ?_ _ | with_reducible refine Below.drew ?_ | exact Below.refl _ _ | assumption | exact And.left (by assumption) | exact And.left (And.right (by assumption)) | refine Below.drew ?_ | refine Below.allocE ?_ _ | refine Below.setCell ?_ (by dsimp only; omega) _)))
      · have htk : (sumsS s t).take k = sumsS s t := List.take_of_length_le (by rw [sumsS_len]; omega)
        have hspec : SumS s t = (⟨s.first, (addAll (sumsS s t)).1, (addAll (sumsS s t)).2⟩, 0) := by
          have h1 := HBAD.out
          rw [htk] at h1
          unfold SumS
          simp only [HE.out]
          rw [if_neg (by simp), if_neg (by simp [h1])]
        have hout := HOUT.out
        rw [htk] at hout
        obtain ⟨xs, hxs⟩ : ∃ xs, addAll (sumsS s t) = xs := ⟨_, rfl⟩
        rw [hxs] at hout hspec
        clear htk hxs
        obtain ⟨hg, hv1, hv2, hbg⟩ := hout
        obtain ⟨RA, rc, rfl, hr1, hr2⟩ := own_form hv1
        obtain ⟨RB, rd, rfl, hr3, hr4⟩ := own_form hv2
        have x0 := hg.c 0 _ rfl
        have x1 := hg.c 1 _ rfl
        have x2 := hg.c 2 _ rfl
        have m5 := Z3.ext hBw
        have q0 := m5.c 0 _ rfl
        have q1 := m5.c 1 _ rfl
        have q2 := m5.c 2 _ rfl
        have q3 := m5.frozen
        have hBx : Below w.heap.size w wr := Below.ext hBZ hBw
        have hzz := hBZ.size
        go_wp2
        have m9 := blk_trace m5 (.int .i64 s.first) (.slice RA xs.1.length rc) (.slice RB xs.2.length rd)
        have p0 := m9.c 0 _ rfl
        have p1 := m9.c 1 _ rfl
        have p2 := m9.c 2 _ rfl
        clear q0 q1 q2 q3
        (try simp only [Exit.inBlock, Exit.then]); refine bodyPost_ret (v := .tuple #[trv s.first (.slice RA xs.1.length rc) (.slice RB xs.2.length rd), .int .i64 0]) (by simp [results, Tryd.results59, go_sem, p0, p1, p2, trv]) rfl ?_
        rw [hspec]
        exact tr_end (T := (⟨s.first, xs.1, xs.2⟩, 0)) (G := w.heap.size + 1 + 1) (B0 := Z.heap.size) ⟨Rd.of_own hv1, Rd.of_own hv2⟩ (fun k hk => own_base hv1 hk) (fun k hk => own_base hv2 hk) hzl (by omega) _ _ _ (by (repeat (first | with_reducible exact Below.refl _ _ | with_reducible assumption | with_reducible exact And.left (by assumption) | with_reducible exact And.left (And.right (by assumption)) | with_reducible refine Below.setCell ?_ (by dsimp only; omega) _ | with_reducible refine Below.allocE ?_ _ | with_reducible refine Below.drew ?_ | exact Below.refl _ _ | assumption | exact And.left (by assumption) | exact And.left (And.right (by assumption)) | refine Below.drew ?_ | refine Below.allocE ?_ _ | refine Below.setCell ?_ (by dsimp only; omega) _)))
  · have HE := Lib.hid he
    obtain ⟨e, hE⟩ : ∃ e, firstS [traceS s, traceS t, whenS (!alikeS s t) 2] = e := ⟨_, rfl⟩
    rw [hE] at he ⊢
    have q0 := m3.c 0 _ rfl
    have q1 := m3.c 1 _ rfl
    have q2 := m3.c 2 _ rfl
    have q3 := m3.frozen
    go_wp2
    have m4 := blk_trace m3 (.int .i64 0) (.slice none 0 0) (.slice none 0 0)
    have p0 := m4.c 0 _ rfl
    have p1 := m4.c 1 _ rfl
    have p2 := m4.c 2 _ rfl
    clear q0 q1 q2 q3
    (try simp only [Exit.inBlock, Exit.then]); refine bodyPost_ret (v := .tuple #[trv 0 (.slice none 0 0) (.slice none 0 0), .int .i64 e]) (by simp [results, Tryd.results59, go_sem, p0, p1, p2, trv]) rfl ?_
    unfold SumS
    simp only [hE]
    rw [if_pos he]
    exact tr_none e (by (repeat (first | with_reducible exact Below.refl _ _ | with_reducible assumption | with_reducible exact And.left (by assumption) | with_reducible exact And.left (And.right (by assumption)) | with_reducible refine Below.setCell ?_ (by dsimp only; omega) _ | with_reducible refine Below.allocE ?_ _ | with_reducible refine Below.drew ?_ | exact Below.refl _ _ | assumption | exact And.left (by assumption) | exact And.left (And.right (by assumption)) | refine Below.drew ?_ | refine Below.allocE ?_ _ | refine Below.setCell ?_ (by dsimp only; omega) _)))

end Go.Proofs.YtbpffadffbgloaaDoor
