/- Contracts: terms, versines, Versines, Curvature. -/
import Derived.Test.YtbpffadffbgloaaGreatDoorC
import Derived.Test.YtbpffadffbgloaaGreatDoorG
import Derived.Test.YtbpffadffbgloaaGreatDoorI
set_option linter.unusedVariables false
set_option linter.unusedSimpArgs false
namespace Go.Proofs.YtbpffadffbgloaaGreatDoor
open Go.RowKit Go.Shelf

def termsS (b a : Int) : List (Int × Int) := [(b + a, 0), (-a, -b), (-b, a)]
set_option maxRecDepth 20000 in
set_option maxHeartbeats 1000000 in
theorem terms_c (b a : Int) (w : World) (b0 : 1 ≤ b) (b1 : b ≤ 32) (a0 : 1 ≤ a) (a1 : a ≤ 32) :
    Calls Tryz.prog 108 #[.agg #[.int .i64 b, .int .i64 a]] w fun r w' => ∃ g, r = .returned (.slice (some ⟨g, 0, none⟩) 3 3) ∧ Rd w' w'.heap.size 2 (.slice (some ⟨g, 0, none⟩) 3 3) 3 (terms (termsS b a)) ∧ Below w.heap.size w w' := by
  have e1 : IntKind.i64.wrap (b + a) = b + a := IntWalk.i64_in _ (by omega)
  have e2 : IntKind.i64.wrap (-a) = -a := IntWalk.i64_in _ (by omega)
  have e3 : IntKind.i64.wrap (-b) = -b := IntWalk.i64_in _ (by omega)
  go_enter Tryz.func108, Tryz.ntmps108
  go_wp2
  go_ret
  refine ⟨_, rfl, ?_, by (repeat (first | with_reducible exact Below.refl _ _ | with_reducible assumption | with_reducible exact And.left (by assumption) | with_reducible exact And.left (And.right (by assumption)) | with_reducible refine Below.setCell ?_ (by dsimp only; omega) _ | with_reducible refine Below.allocE ?_ _ | with_reducible refine Below.drew ?_ | exact Below.refl _ _ | assumption | exact And.left (by assumption) | exact And.left (And.right (by assumption)) | refine Below.drew ?_ | refine Below.allocE ?_ _ | refine Below.setCell ?_ (by dsimp only; omega) _))⟩
  exact Rd.fresh _ #[.int .i64 (b + a), .int .i64 0, .int .i64 (-a), .int .i64 (-b), .int .i64 (-b), .int .i64 a] _ _ (by simp) rfl (by omega)

/-- A trace's cells in the place of a result. -/
theorem blk_trace {W : World} {g : Nat} {t : TypeId} {x y z : Value} (h : Blk W g t #[x, y, z]) (u v s : Value) : Blk (((W.setCell ⟨g, 0, none⟩ u).setCell ⟨g, 1, none⟩ v).setCell ⟨g, 2, none⟩ s) g t #[u, v, s] := by
  simpa using ((h.set_ 0 u).set_ 1 v).set_ 2 s

theorem alloc1 (w : World) (A : Array Value) (t : TypeId) : Blk (w.alloc (.cells A t)) w.heap.size t A ∧ Below w.heap.size w (w.alloc (.cells A t)) := ⟨Blk.new _ _ _, Below.allocE (Below.refl _ _) _⟩
theorem alloc2 (w : World) (A B : Array Value) (t u : TypeId) : Blk ((w.alloc (.cells A t)).alloc (.cells B u)) w.heap.size t A ∧ Blk ((w.alloc (.cells A t)).alloc (.cells B u)) (w.heap.size + 1) u B ∧ Below w.heap.size w ((w.alloc (.cells A t)).alloc (.cells B u)) :=
  ⟨(Blk.new _ _ _).alloc _, by simpa using Blk.new (w.alloc (.cells A t)) u B, Below.allocE (Below.allocE (Below.refl _ _) _) _⟩
theorem alloc3 (w : World) (A B C : Array Value) (t u v : TypeId) : Blk (((w.alloc (.cells A t)).alloc (.cells B u)).alloc (.cells C v)) w.heap.size t A ∧ Blk (((w.alloc (.cells A t)).alloc (.cells B u)).alloc (.cells C v)) (w.heap.size + 1) u B ∧
    Blk (((w.alloc (.cells A t)).alloc (.cells B u)).alloc (.cells C v)) (w.heap.size + 1 + 1) v C ∧ Below w.heap.size w (((w.alloc (.cells A t)).alloc (.cells B u)).alloc (.cells C v)) :=
  ⟨(alloc2 w A B t u).1.alloc _, (alloc2 w A B t u).2.1.alloc _, by simpa using Blk.new ((w.alloc (.cells A t)).alloc (.cells B u)) v C, Below.allocE (alloc2 w A B t u).2.2 _⟩

set_option maxRecDepth 20000 in
set_option maxHeartbeats 1000000 in
theorem versines_c (f b a : Int) (vv hv kv : Value) (l : List Int) (kn : List Bool) (w : World) (b0 : 1 ≤ b) (b1 : b ≤ 32) (a0 : 1 ≤ a) (a1 : a ≤ 32)
    (h : Rd w w.heap.size 1 vv l.length (ints l)) (hk : Rd w w.heap.size 1 kv kn.length (bools kn)) (hkl : kn.length = l.length)
    (f0 : 0 ≤ f) (f1 : f ≤ 100000000) (hl : l.length ≤ 4096) (hv1 : ∀ x ∈ l, -1073741824 ≤ x ∧ x ≤ 1073741824) :
    Calls Tryz.prog 80 #[rdv f vv hv kv, .agg #[.int .i64 b, .int .i64 a]] w (TrPost w (foldedS f l kn (termsS b a) (-b) a)) := by
  have e3 : IntKind.i64.wrap (-b) = -b := IntWalk.i64_in _ (by omega)
  unfold rdv
  go_enter Tryz.func80, Tryz.ntmps80
  go_wp2
  obtain ⟨k1, k2, k3, hB⟩ := alloc3 w #[.int .i64 f, vv, hv, kv] #[.int .i64 b, .int .i64 a] #[.int .i64 0, .slice none 0 0, .slice none 0 0] 114 56 29
  generalize World.alloc (World.alloc (World.alloc w _) _) _ = W at *
  have c0 := k1.c 0 _ rfl
  have c1 := k1.c 1 _ rfl
  have c2 := k1.c 2 _ rfl
  have c3 := k1.c 3 _ rfl
  have d0 := k2.c 0 _ rfl
  have d1 := k2.c 1 _ rfl
  have hlt := k3.lt
  have hb : Rd W.drew W.drew.heap.size 1 vv l.length (ints l) := (h.below hB).more hB.size
  have hkb : Rd W.drew W.drew.heap.size 1 kv kn.length (bools kn) := (hk.below hB).more hB.size
  have n1 : w.heap.size ≠ w.heap.size + 1 + 1 := by omega
  have n2 : w.heap.size + 1 ≠ w.heap.size + 1 + 1 := by omega
  have n3 := n1.symm
  have n4 := n2.symm
  obtain ⟨T, hT⟩ : ∃ T, foldedS f l kn (termsS b a) (-b) a = T := ⟨_, rfl⟩
  refine wp_region_noPanic ?_
  refine wp_region_held_drew (S := fun w' => Below w.heap.size w w' ∧ w'.cell? ⟨w.heap.size, 0, none⟩ = some (.int .i64 f) ∧ w'.cell? ⟨w.heap.size, 1, none⟩ = some vv ∧ w'.cell? ⟨w.heap.size, 2, none⟩ = some hv ∧ w'.cell? ⟨w.heap.size, 3, none⟩ = some kv ∧ w'.cell? ⟨w.heap.size + 1, 0, none⟩ = some (.int .i64 b) ∧ w'.cell? ⟨w.heap.size + 1, 1, none⟩ = some (.int .i64 a)) (by kernel_rfl) ?_ (fun hHeld => ?_)
  · first | exact rfl | ((try dsimp only); ((repeat' apply And.intro) <;> first | go_keep | exact cell_ext (by go_keep) hbe | (refine Below.ext ?_ hbe; first | assumption | exact And.left (by assumption) | exact And.left (And.right (by assumption)) | (repeat (first | with_reducible exact Below.refl _ _ | with_reducible assumption | with_reducible exact And.left (by assumption) | with_reducible exact And.left (And.right (by assumption)) | with_reducible refine Below.setCell ?_ (by dsimp only; omega) _ | with_reducible refine Below.allocE ?_ _ | with_reducible refine Below.drew ?_ | exact Below.refl _ _ | assumption | exact And.left (by assumption) | exact And.left (And.right (by assumption)) | refine Below.drew ?_ | refine Below.allocE ?_ _ | refine Below.setCell ?_ (by dsimp only; omega) _))) | exact cell_ext (by go_keep) hbf | (refine Below.ext ?_ hbf; first | assumption | exact And.left (by assumption) | exact And.left (And.right (by assumption)) | (repeat (first | with_reducible exact Below.refl _ _ | with_reducible assumption | with_reducible exact And.left (by assumption) | with_reducible exact And.left (And.right (by assumption)) | with_reducible refine Below.setCell ?_ (by dsimp only; omega) _ | with_reducible refine Below.allocE ?_ _ | with_reducible refine Below.drew ?_ | exact Below.refl _ _ | assumption | exact And.left (by assumption) | exact And.left (And.right (by assumption)) | refine Below.drew ?_ | refine Below.allocE ?_ _ | refine Below.setCell ?_ (by dsimp only; omega) _))) | (repeat (first | with_reducible exact Below.refl _ _ | with_reducible assumption | with_reducible exact And.left (by assumption) | with_reducible exact And.left (And.right (by assumption)) | with_reducible refine Below.setCell ?_ (by dsimp only; omega) _ | with_reducible refine Below.allocE ?_ _ | with_reducible refine Below.drew ?_ | exact Below.refl _ _ | assumption | exact And.left (by assumption) | exact And.left (And.right (by assumption)) | refine Below.drew ?_ | refine Below.allocE ?_ _ | refine Below.setCell ?_ (by dsimp only; omega) _))))
  refine wpAnyH_take (i := 0) (oi := { dst := some 6, op := Op.load 114 (Operand.tmp 2), type := 114, pos := _, after := #[], guard := none }) (v := ?_) rfl (by kernel_rfl) (by kernel_rfl) (by kernel_rfl) (fun _ _ _ h => h) (Or.inl ⟨by rfl, ?_⟩) (by assumption) ?_
  rotate_left 1
  · (intro w hSw; (try dsimp only at hSw); go_simp; (try with_reducible rfl))
  (try simp only [Act.put, List.setIfInBounds_toArray, List.set_cons_zero, List.set_cons_succ])
  refine wpAnyH_take (i := 1) (oi := { dst := some 7, op := Op.load 56 (Operand.tmp 3), type := 56, pos := _, after := #[], guard := none }) (v := ?_) rfl (by kernel_rfl) (by kernel_rfl) (by kernel_rfl) (fun _ _ _ h => h) (Or.inl ⟨by rfl, ?_⟩) (by assumption) ?_
  rotate_left 1
  · (intro w hSw; (try dsimp only at hSw); go_simp; (try with_reducible rfl))
  (try simp only [Act.put, List.setIfInBounds_toArray, List.set_cons_zero, List.set_cons_succ])
  refine wpAnyH_take (i := 3) (oi := { dst := some 9, op := Op.fieldAddr 56 (Operand.tmp 3) 0, type := 0, pos := _, after := #[], guard := none }) (v := ?_) rfl (by kernel_rfl) (by kernel_rfl) (by kernel_rfl) (fun _ _ _ h => h) (Or.inl ⟨by rfl, ?_⟩) (by assumption) ?_
  rotate_left 1
  · (intro w hSw; (try dsimp only at hSw); go_simp; (try with_reducible rfl))
  (try simp only [Act.put, List.setIfInBounds_toArray, List.set_cons_zero, List.set_cons_succ])
  refine wpAnyH_take (i := 4) (oi := { dst := some 10, op := Op.load 3 (Operand.tmp 9), type := 3, pos := _, after := #[{ on := 3, ground := Ground.data }], guard := none }) (v := ?_) rfl (by kernel_rfl) (by kernel_rfl) (by kernel_rfl) (fun _ _ _ h => h) (Or.inl ⟨by rfl, ?_⟩) (by assumption) ?_
  rotate_left 1
  · (intro w hSw; (try dsimp only at hSw); go_simp; (try with_reducible rfl))
  (try simp only [Act.put, List.setIfInBounds_toArray, List.set_cons_zero, List.set_cons_succ])
  refine wpAnyH_take (i := 5) (oi := { dst := some 11, op := Op.unOp UnOp.neg 3 (Operand.tmp 10), type := 3, pos := _, after := #[{ on := 4, ground := Ground.data }], guard := none }) (v := ?_) rfl (by kernel_rfl) (by kernel_rfl) (by kernel_rfl) (fun _ _ _ h => h) (Or.inl ⟨by rfl, ?_⟩) (by assumption) ?_
  rotate_left 1
  · (intro w hSw; (try dsimp only at hSw); go_simp; (try with_reducible rfl))
  (try simp only [Act.put, List.setIfInBounds_toArray, List.set_cons_zero, List.set_cons_succ])
  refine wpAnyH_take (i := 6) (oi := { dst := some 12, op := Op.fieldAddr 56 (Operand.tmp 3) 1, type := 0, pos := _, after := #[], guard := none }) (v := ?_) rfl (by kernel_rfl) (by kernel_rfl) (by kernel_rfl) (fun _ _ _ h => h) (Or.inl ⟨by rfl, ?_⟩) (by assumption) ?_
  rotate_left 1
  · (intro w hSw; (try dsimp only at hSw); go_simp; (try with_reducible rfl))
  (try simp only [Act.put, List.setIfInBounds_toArray, List.set_cons_zero, List.set_cons_succ])
  refine wpAnyH_take (i := 7) (oi := { dst := some 13, op := Op.load 3 (Operand.tmp 12), type := 3, pos := _, after := #[{ on := 6, ground := Ground.data }], guard := none }) (v := ?_) rfl (by kernel_rfl) (by kernel_rfl) (by kernel_rfl) (fun _ _ _ h => h) (Or.inl ⟨by rfl, ?_⟩) (by assumption) ?_
  rotate_left 1
  · (intro w hSw; (try dsimp only at hSw); go_simp; (try with_reducible rfl))
  (try simp only [Act.put, List.setIfInBounds_toArray, List.set_cons_zero, List.set_cons_succ])
  refine wpAnyH_ready (rs := [2]) (by kernel_rfl) (by simp) ?_
  refine AllReadyH.cons (o := { dst := some 8, op := Op.call { callee := Callee.value (Operand.func 108), args := #[Operand.tmp 7], argTypes := #[56] }, type := 180, pos := _, after := #[{ on := 1, ground := Ground.data }], guard := none }) rfl (fun K hK => ?_) AllReadyH.nil
  (first | (first | (go_at_call 108; refine (terms_c b a _ b0 b1 a0 a1).mono ?_; rintro e w' ⟨g, rfl, hg, hbe⟩) | (go_at_call 110; refine (folded_c f (-b) a vv hv kv _ l kn (termsS b a) _ ((hb.below hbe).more hbe.size) ((hkb.below hbe).more hbe.size) hkl hg f0 f1 hl (by omega) (by omega) (by omega) (by omega) hv1 (by simp [termsS]) (by simp [termsS]; omega)).mono ?_; rintro e w' ⟨rv, rh, rfl, hr, hf1, hf2, hbf⟩; obtain ⟨RA, rc, rfl, hr1, hr2⟩ := hr.1.slice; obtain ⟨RB, rd, rfl, hr3, hr4⟩ := hr.2.slice)) | (go_simp; (first | (go_at_call 108; refine (terms_c b a _ b0 b1 a0 a1).mono ?_; rintro e w' ⟨g, rfl, hg, hbe⟩) | (go_at_call 110; refine (folded_c f (-b) a vv hv kv _ l kn (termsS b a) _ ((hb.below hbe).more hbe.size) ((hkb.below hbe).more hbe.size) hkl hg f0 f1 hl (by omega) (by omega) (by omega) (by omega) hv1 (by simp [termsS]) (by simp [termsS]; omega)).mono ?_; rintro e w' ⟨rv, rh, rfl, hr, hf1, hf2, hbf⟩; obtain ⟨RA, rc, rfl, hr1, hr2⟩ := hr.1.slice; obtain ⟨RB, rd, rfl, hr3, hr4⟩ := hr.2.slice))))
  refine hK.out _ _ ?_ (fun hNew => ?_)
  · (try dsimp only); ((repeat' apply And.intro) <;> first | go_keep | exact cell_ext (by go_keep) hbe | (refine Below.ext ?_ hbe; first | assumption | exact And.left (by assumption) | exact And.left (And.right (by assumption)) | (repeat (first | with_reducible exact Below.refl _ _ | with_reducible assumption | with_reducible exact And.left (by assumption) | with_reducible exact And.left (And.right (by assumption)) | with_reducible refine Below.setCell ?_ (by dsimp only; omega) _ | with_reducible refine Below.allocE ?_ _ | with_reducible refine Below.drew ?_ | exact Below.refl _ _ | assumption | exact And.left (by assumption) | exact And.left (And.right (by assumption)) | refine Below.drew ?_ | refine Below.allocE ?_ _ | refine Below.setCell ?_ (by dsimp only; omega) _))) | exact cell_ext (by go_keep) hbf | (refine Below.ext ?_ hbf; first | assumption | exact And.left (by assumption) | exact And.left (And.right (by assumption)) | (repeat (first | with_reducible exact Below.refl _ _ | with_reducible assumption | with_reducible exact And.left (by assumption) | with_reducible exact And.left (And.right (by assumption)) | with_reducible refine Below.setCell ?_ (by dsimp only; omega) _ | with_reducible refine Below.allocE ?_ _ | with_reducible refine Below.drew ?_ | exact Below.refl _ _ | assumption | exact And.left (by assumption) | exact And.left (And.right (by assumption)) | refine Below.drew ?_ | refine Below.allocE ?_ _ | refine Below.setCell ?_ (by dsimp only; omega) _))) | (repeat (first | with_reducible exact Below.refl _ _ | with_reducible assumption | with_reducible exact And.left (by assumption) | with_reducible exact And.left (And.right (by assumption)) | with_reducible refine Below.setCell ?_ (by dsimp only; omega) _ | with_reducible refine Below.allocE ?_ _ | with_reducible refine Below.drew ?_ | exact Below.refl _ _ | assumption | exact And.left (by assumption) | exact And.left (And.right (by assumption)) | refine Below.drew ?_ | refine Below.allocE ?_ _ | refine Below.setCell ?_ (by dsimp only; omega) _)))
  clear hK K
  have hHeld := hNew
  clear hNew
  (try dsimp only at hHeld)
  (try simp only [Act.put, List.setIfInBounds_toArray, List.set_cons_zero, List.set_cons_succ])
  refine wpAnyH_ready (rs := [8]) (by kernel_rfl) (by simp) ?_
  refine AllReadyH.cons (o := { dst := some 14, op := Op.call { callee := Callee.value (Operand.func 110), args := #[Operand.tmp 6, Operand.tmp 8, Operand.tmp 11, Operand.tmp 13], argTypes := #[114, 180, 3, 3] }, type := 31, pos := _, after := #[{ on := 0, ground := Ground.data }, { on := 2, ground := Ground.data }, { on := 5, ground := Ground.data }, { on := 7, ground := Ground.data }, { on := 2, ground := Ground.chain }], guard := none }) rfl (fun K hK => ?_) AllReadyH.nil
  (first | (first | (go_at_call 108; refine (terms_c b a _ b0 b1 a0 a1).mono ?_; rintro e w' ⟨g, rfl, hg, hbe⟩) | (go_at_call 110; refine (folded_c f (-b) a vv hv kv _ l kn (termsS b a) _ ((hb.below hbe).more hbe.size) ((hkb.below hbe).more hbe.size) hkl hg f0 f1 hl (by omega) (by omega) (by omega) (by omega) hv1 (by simp [termsS]) (by simp [termsS]; omega)).mono ?_; rintro e w' ⟨rv, rh, rfl, hr, hf1, hf2, hbf⟩; obtain ⟨RA, rc, rfl, hr1, hr2⟩ := hr.1.slice; obtain ⟨RB, rd, rfl, hr3, hr4⟩ := hr.2.slice)) | (go_simp; (first | (go_at_call 108; refine (terms_c b a _ b0 b1 a0 a1).mono ?_; rintro e w' ⟨g, rfl, hg, hbe⟩) | (go_at_call 110; refine (folded_c f (-b) a vv hv kv _ l kn (termsS b a) _ ((hb.below hbe).more hbe.size) ((hkb.below hbe).more hbe.size) hkl hg f0 f1 hl (by omega) (by omega) (by omega) (by omega) hv1 (by simp [termsS]) (by simp [termsS]; omega)).mono ?_; rintro e w' ⟨rv, rh, rfl, hr, hf1, hf2, hbf⟩; obtain ⟨RA, rc, rfl, hr1, hr2⟩ := hr.1.slice; obtain ⟨RB, rd, rfl, hr3, hr4⟩ := hr.2.slice))))
  refine hK.out _ _ ?_ (fun hNew => ?_)
  · (try dsimp only); ((repeat' apply And.intro) <;> first | go_keep | exact cell_ext (by go_keep) hbe | (refine Below.ext ?_ hbe; first | assumption | exact And.left (by assumption) | exact And.left (And.right (by assumption)) | (repeat (first | with_reducible exact Below.refl _ _ | with_reducible assumption | with_reducible exact And.left (by assumption) | with_reducible exact And.left (And.right (by assumption)) | with_reducible refine Below.setCell ?_ (by dsimp only; omega) _ | with_reducible refine Below.allocE ?_ _ | with_reducible refine Below.drew ?_ | exact Below.refl _ _ | assumption | exact And.left (by assumption) | exact And.left (And.right (by assumption)) | refine Below.drew ?_ | refine Below.allocE ?_ _ | refine Below.setCell ?_ (by dsimp only; omega) _))) | exact cell_ext (by go_keep) hbf | (refine Below.ext ?_ hbf; first | assumption | exact And.left (by assumption) | exact And.left (And.right (by assumption)) | (repeat (first | with_reducible exact Below.refl _ _ | with_reducible assumption | with_reducible exact And.left (by assumption) | with_reducible exact And.left (And.right (by assumption)) | with_reducible refine Below.setCell ?_ (by dsimp only; omega) _ | with_reducible refine Below.allocE ?_ _ | with_reducible refine Below.drew ?_ | exact Below.refl _ _ | assumption | exact And.left (by assumption) | exact And.left (And.right (by assumption)) | refine Below.drew ?_ | refine Below.allocE ?_ _ | refine Below.setCell ?_ (by dsimp only; omega) _))) | (repeat (first | with_reducible exact Below.refl _ _ | with_reducible assumption | with_reducible exact And.left (by assumption) | with_reducible exact And.left (And.right (by assumption)) | with_reducible refine Below.setCell ?_ (by dsimp only; omega) _ | with_reducible refine Below.allocE ?_ _ | with_reducible refine Below.drew ?_ | exact Below.refl _ _ | assumption | exact And.left (by assumption) | exact And.left (And.right (by assumption)) | refine Below.drew ?_ | refine Below.allocE ?_ _ | refine Below.setCell ?_ (by dsimp only; omega) _)))
  clear hK K
  have hHeld := hNew
  clear hNew
  (try dsimp only at hHeld)
  (try simp only [Act.put, List.setIfInBounds_toArray, List.set_cons_zero, List.set_cons_succ])
  refine wpAnyH_take (i := 9) (oi := { dst := some 15, op := Op.extract (Operand.tmp 14) 0, type := 29, pos := _, after := #[{ on := 8, ground := Ground.data }], guard := none }) (v := ?_) rfl (by kernel_rfl) (by kernel_rfl) (by kernel_rfl) (fun _ _ _ h => h) (Or.inl ⟨by rfl, ?_⟩) (by assumption) ?_
  rotate_left 1
  · (intro w hSw; (try dsimp only at hSw); go_simp; (try with_reducible rfl))
  (try simp only [Act.put, List.setIfInBounds_toArray, List.set_cons_zero, List.set_cons_succ])
  refine wpAnyH_take (i := 10) (oi := { dst := some 16, op := Op.extract (Operand.tmp 14) 1, type := 30, pos := _, after := #[{ on := 8, ground := Ground.data }], guard := none }) (v := ?_) rfl (by kernel_rfl) (by kernel_rfl) (by kernel_rfl) (fun _ _ _ h => h) (Or.inl ⟨by rfl, ?_⟩) (by assumption) ?_
  rotate_left 1
  · (intro w hSw; (try dsimp only at hSw); go_simp; (try with_reducible rfl))
  (try simp only [Act.put, List.setIfInBounds_toArray, List.set_cons_zero, List.set_cons_succ])
  refine wpAnyH_ready (rs := [11]) (by kernel_rfl) (by simp) ?_
  refine AllReadyH.cons (o := { dst := none, op := Op.store 29 (Operand.tmp 4) (Operand.tmp 15), type := 0, pos := _, after := #[{ on := 9, ground := Ground.data }, { on := 8, ground := Ground.chain }, { on := 0, ground := Ground.phase }, { on := 1, ground := Ground.phase }, { on := 2, ground := Ground.phase }, { on := 3, ground := Ground.phase }, { on := 4, ground := Ground.phase }, { on := 5, ground := Ground.phase }, { on := 6, ground := Ground.phase }, { on := 7, ground := Ground.phase }, { on := 8, ground := Ground.phase }, { on := 9, ground := Ground.phase }, { on := 10, ground := Ground.phase }], guard := none }) rfl (fun K hK => ?_) AllReadyH.nil
  (first | ((try simp only [trv]); have q0 := ((k3.drew.ext hbe).ext hbf).c 0 _ rfl; have q1 := ((k3.drew.ext hbe).ext hbf).c 1 _ rfl; have q2 := ((k3.drew.ext hbe).ext hbf).c 2 _ rfl; have q3 := ((k3.drew.ext hbe).ext hbf).frozen; go_simp) | go_simp)
  refine hK.out _ _ ?_ (fun hNew => ?_)
  · (try dsimp only); ((repeat' apply And.intro) <;> first | go_keep | exact cell_ext (by go_keep) hbe | (refine Below.ext ?_ hbe; first | assumption | exact And.left (by assumption) | exact And.left (And.right (by assumption)) | (repeat (first | with_reducible exact Below.refl _ _ | with_reducible assumption | with_reducible exact And.left (by assumption) | with_reducible exact And.left (And.right (by assumption)) | with_reducible refine Below.setCell ?_ (by dsimp only; omega) _ | with_reducible refine Below.allocE ?_ _ | with_reducible refine Below.drew ?_ | exact Below.refl _ _ | assumption | exact And.left (by assumption) | exact And.left (And.right (by assumption)) | refine Below.drew ?_ | refine Below.allocE ?_ _ | refine Below.setCell ?_ (by dsimp only; omega) _))) | exact cell_ext (by go_keep) hbf | (refine Below.ext ?_ hbf; first | assumption | exact And.left (by assumption) | exact And.left (And.right (by assumption)) | (repeat (first | with_reducible exact Below.refl _ _ | with_reducible assumption | with_reducible exact And.left (by assumption) | with_reducible exact And.left (And.right (by assumption)) | with_reducible refine Below.setCell ?_ (by dsimp only; omega) _ | with_reducible refine Below.allocE ?_ _ | with_reducible refine Below.drew ?_ | exact Below.refl _ _ | assumption | exact And.left (by assumption) | exact And.left (And.right (by assumption)) | refine Below.drew ?_ | refine Below.allocE ?_ _ | refine Below.setCell ?_ (by dsimp only; omega) _))) | (repeat (first | with_reducible exact Below.refl _ _ | with_reducible assumption | with_reducible exact And.left (by assumption) | with_reducible exact And.left (And.right (by assumption)) | with_reducible refine Below.setCell ?_ (by dsimp only; omega) _ | with_reducible refine Below.allocE ?_ _ | with_reducible refine Below.drew ?_ | exact Below.refl _ _ | assumption | exact And.left (by assumption) | exact And.left (And.right (by assumption)) | refine Below.drew ?_ | refine Below.allocE ?_ _ | refine Below.setCell ?_ (by dsimp only; omega) _)))
  clear hK K
  have hHeld := hNew
  clear hNew
  (try dsimp only at hHeld)
  (try simp only [Act.put, List.setIfInBounds_toArray, List.set_cons_zero, List.set_cons_succ])
  refine wpAnyH_take (i := 12) (oi := { dst := some 5, op := Op.assign (Operand.tmp 16), type := 30, pos := _, after := #[{ on := 10, ground := Ground.data }, { on := 11, ground := Ground.chain }, { on := 0, ground := Ground.phase }, { on := 1, ground := Ground.phase }, { on := 2, ground := Ground.phase }, { on := 3, ground := Ground.phase }, { on := 4, ground := Ground.phase }, { on := 5, ground := Ground.phase }, { on := 6, ground := Ground.phase }, { on := 7, ground := Ground.phase }, { on := 8, ground := Ground.phase }, { on := 9, ground := Ground.phase }, { on := 10, ground := Ground.phase }, { on := 11, ground := Ground.phase }], guard := none }) (v := ?_) rfl (by kernel_rfl) (by kernel_rfl) (by kernel_rfl) (fun _ _ _ h => h) (Or.inl ⟨by rfl, ?_⟩) (by assumption) ?_
  rotate_left 1
  · (intro w hSw; (try dsimp only at hSw); go_simp; (try with_reducible rfl))
  (try simp only [Act.put, List.setIfInBounds_toArray, List.set_cons_zero, List.set_cons_succ])
  refine wpAnyH_done (by kernel_rfl) ?_ _
  refine NoPanic.normal ?_
  subst hT
  have hs0 := hB.size
  have k5 := blk_trace ((k3.drew.ext hbe).ext hbf) (.int .i64 (foldedS f l kn (termsS b a) (-b) a).1.first) (.slice RA (foldedS f l kn (termsS b a) (-b) a).1.vals.length rc) (.slice RB (foldedS f l kn (termsS b a) (-b) a).1.holes.length rd)
  have hs1 := hbe.size
  simp only [World.drew] at hs1
  have hr5 := ((hr.far hf1 hf2 (p := ⟨w.heap.size + 1 + 1, 0, none⟩) (by simp only; omega) (.int .i64 (foldedS f l kn (termsS b a) (-b) a).1.first)).far hf1 hf2 (p := ⟨w.heap.size + 1 + 1, 1, none⟩) (by simp only; omega) (.slice RA (foldedS f l kn (termsS b a) (-b) a).1.vals.length rc)).far hf1 hf2 (p := ⟨w.heap.size + 1 + 1, 2, none⟩) (by simp only; omega) (.slice RB (foldedS f l kn (termsS b a) (-b) a).1.holes.length rd)
  have p0 := k5.c 0 _ rfl
  have p1 := k5.c 1 _ rfl
  have p2 := k5.c 2 _ rfl
  have hB5 := hHeld.1
  clear hHeld q0 q1 q2 q3
  go_wp2
  refine bodyPost_ret (v := .tuple #[trv (foldedS f l kn (termsS b a) (-b) a).1.first (.slice RA (foldedS f l kn (termsS b a) (-b) a).1.vals.length rc) (.slice RB (foldedS f l kn (termsS b a) (-b) a).1.holes.length rd), .int .i64 (foldedS f l kn (termsS b a) (-b) a).2]) (by simp [results, Tryz.results80, go_sem, p0, p1, p2, trv]) rfl ?_
  exact ⟨_, _, rfl, by simpa using hr5, hf1.mono (by omega), hf2.mono (by omega), hB5⟩

theorem Blk.rd {w : World} {g : Nat} {t : TypeId} {cs : Array Value} (h : Blk w g t cs) (hn : cs.size ≤ 1048576) : Rd w w.heap.size 1 (.slice (some ⟨g, 0, none⟩) cs.size cs.size) cs.size cs.toList := by
  refine ⟨by simp, _, _, rfl, Nat.le_refl _, by unfold maxLen; omega, fun _ => ⟨_, rfl, h.lt, fun j u hu => ?_⟩⟩
  have e1 : (⟨g, 0, none⟩ : Addr).add j = ⟨g, j, none⟩ := by unfold Addr.add; split <;> simp_all
  rw [e1, h.cell]
  simpa using hu

/-- The end of a function that gives a trace through its place. -/
theorem tr_end {w w' : World} {T : Tr × Int} {G B0 : Nat} {vv hv : Value} (hr : RdT w' w'.heap.size vv hv T.1) (hf1 : Fr B0 vv) (hf2 : Fr B0 hv) (hG : G < B0) (hB0 : w.heap.size ≤ B0) (x y z : Value)
    (hB : Below w.heap.size w (((w'.setCell ⟨G, 0, none⟩ x).setCell ⟨G, 1, none⟩ y).setCell ⟨G, 2, none⟩ z)) :
    TrPost w T (.returned (.tuple #[trv T.1.first vv hv, .int .i64 T.2])) (((w'.setCell ⟨G, 0, none⟩ x).setCell ⟨G, 1, none⟩ y).setCell ⟨G, 2, none⟩ z) := by
  have hr5 := ((hr.far hf1 hf2 (p := ⟨G, 0, none⟩) hG x).far hf1 hf2 (p := ⟨G, 1, none⟩) hG y).far hf1 hf2 (p := ⟨G, 2, none⟩) hG z
  exact ⟨_, _, rfl, by simpa using hr5, hf1.mono hB0, hf2.mono hB0, hB⟩
/-- .. with no trace. -/
theorem tr_none {w w' : World} (e : Int) (hB : Below w.heap.size w w') : TrPost w (⟨0, [], []⟩, e) (.returned (.tuple #[trv 0 (.slice none 0 0) (.slice none 0 0), .int .i64 e])) w' :=
  ⟨_, _, rfl, ⟨Rd.nil _ _ _, Rd.nil _ _ _⟩, Fr.nil _, Fr.nil _, hB⟩

theorem chordS_ok {b a : Int} (h : chordS b a = 0) : (1 ≤ b ∧ b ≤ 32) ∧ 1 ≤ a ∧ a ≤ 32 := by
  unfold chordS at h
  rw [firstS_eq] at h
  exact ⟨(withinS_eq _ _ _).1 (h _ (by simp)), (withinS_eq _ _ _).1 (h _ (by simp))⟩

structure TrOk (t : Tr) : Prop where
  f0 : 0 ≤ t.first
  f1 : t.first ≤ 100000000
  len : t.vals.length ≤ 4096
  end_ : t.first + t.vals.length ≤ 100000000
  val : ∀ x ∈ t.vals, -1073741824 ≤ x ∧ x ≤ 1073741824
  holes : HolesOk t.vals.length t.holes

theorem holesS_ok (n : Nat) : ∀ (hs : List (Int × Int)) (last : Int), holesS n last hs = 0 → HolesOk n hs
  | [], _, _ => fun p hp => by cases hp
  | h :: l, last, hz => by
    unfold holesS at hz
    have h1 : holeS n last h = 0 := by
      by_cases e : holeS n last h = 0
      · exact e
      · rw [if_pos e] at hz; exact absurd hz e
    rw [if_neg (by simpa using h1)] at hz
    have ih := holesS_ok n l h.2 hz
    unfold holeS at h1
    rw [firstS_eq] at h1
    have h2 := h1 _ List.mem_cons_self
    unfold spanS at h2
    rw [whenS_eq _ 14 (by decide)] at h2
    simp only [Bool.or_eq_false_iff, decide_eq_false_iff_not] at h2
    intro p hp
    rcases List.mem_cons.1 hp with rfl | hp
    · omega
    · exact ih p hp

theorem traceS_ok {t : Tr} (h : traceS t = 0) : TrOk t := by
  unfold traceS at h
  have h1 : headS t.first t.vals = 0 := by
    by_cases e : headS t.first t.vals = 0
    · exact e
    · rw [if_pos e] at h; exact absurd h e
  rw [if_neg (by simpa using h1)] at h
  have h2 : bodyS t.first t.vals = 0 := by
    by_cases e : bodyS t.first t.vals = 0
    · exact e
    · rw [if_pos e] at h; exact absurd h e
  rw [if_neg (by simpa using h2)] at h
  have h3 : holesS t.vals.length (-1) t.holes = 0 := by
    by_cases e : holesS t.vals.length (-1) t.holes = 0
    · exact e
    · rw [if_pos e] at h; exact absurd h e
  unfold headS at h1
  rw [firstS_eq] at h1
  have a1 := (withinS_eq _ _ _).1 (h1 _ List.mem_cons_self)
  have a2 := h1 (whenS (decide (4096 < (t.vals.length : Int))) 5) (by simp)
  rw [whenS_eq _ 5 (by decide), decide_eq_false_iff_not] at a2
  unfold bodyS at h2
  rw [firstS_eq] at h2
  have b1 := h2 _ List.mem_cons_self
  rw [whenS_eq _ 4 (by decide), decide_eq_false_iff_not] at b1
  have b2 := h2 (firstS (t.vals.map readingS)) (by simp)
  rw [firstS_eq] at b2
  refine ⟨a1.1, a1.2, by omega, by omega, fun x hx => ?_, holesS_ok _ _ _ h3⟩
  have := b2 (readingS x) (List.mem_map.2 ⟨x, hx, rfl⟩)
  unfold readingS at this
  exact (withinS_eq _ _ _).1 this

def VersinesS (b a : Int) (t : Tr) : Tr × Int :=
  if firstS [chordS b a, traceS t] ≠ 0 then (⟨0, [], []⟩, firstS [chordS b a, traceS t]) else foldedS t.first t.vals (knS t.vals.length t.holes) (termsS b a) (-b) a

set_option maxRecDepth 20000 in
set_option maxHeartbeats 1000000 in
theorem Versines_c (b a : Int) (vv hv : Value) (t : Tr) (w : World) (h : RdT w w.heap.size vv hv t) :
    Calls Tryz.prog 41 #[.agg #[.int .i64 b, .int .i64 a], trv t.first vv hv] w (TrPost w (VersinesS b a t)) := by
  obtain ⟨A, c, rfl, h1, h2⟩ := h.1.slice
  obtain ⟨A', c', rfl, h1', h2'⟩ := h.2.slice
  unfold trv
  go_enter Tryz.func41, Tryz.ntmps41
  go_wp2
  obtain ⟨k1, k2, k3, hB⟩ := alloc3 w #[.int .i64 b, .int .i64 a] #[.int .i64 t.first, .slice A t.vals.length c, .slice A' t.holes.length c'] #[.int .i64 0, .slice none 0 0, .slice none 0 0] 56 29 29
  generalize World.alloc (World.alloc (World.alloc w _) _) _ = W at *
  have c0 := k1.c 0 _ rfl
  have c1 := k1.c 1 _ rfl
  have d0 := k2.c 0 _ rfl
  have d1 := k2.c 1 _ rfl
  have d2 := k2.c 2 _ rfl
  have hlt := k3.lt
  have hs0 := hB.size
  have hb : RdT W.drew W.drew.heap.size (.slice A t.vals.length c) (.slice A' t.holes.length c') t := (h.below hB).more hB.size
  have n1 : w.heap.size ≠ w.heap.size + 1 + 1 := by omega
  have n2 : w.heap.size + 1 ≠ w.heap.size + 1 + 1 := by omega
  have n3 := n1.symm
  have n4 := n2.symm
  refine wp_region_noPanic ?_
  refine wp_region_held_drew (S := fun w' => Below w.heap.size w w' ∧ w'.cell? ⟨w.heap.size, 0, none⟩ = some (.int .i64 b) ∧ w'.cell? ⟨w.heap.size, 1, none⟩ = some (.int .i64 a) ∧ w'.cell? ⟨w.heap.size + 1, 0, none⟩ = some (.int .i64 t.first) ∧ w'.cell? ⟨w.heap.size + 1, 1, none⟩ = some (.slice A t.vals.length c) ∧ w'.cell? ⟨w.heap.size + 1, 2, none⟩ = some (.slice A' t.holes.length c')) (by kernel_rfl) ?_ (fun hHeld => ?_)
  · first | exact rfl | ((try dsimp only); ((repeat' apply And.intro) <;> first | go_keep | exact cell_ext (by go_keep) hbe | (refine Below.ext ?_ hbe; first | assumption | exact And.left (by assumption) | exact And.left (And.right (by assumption)) | (repeat (first | with_reducible exact Below.refl _ _ | with_reducible assumption | with_reducible exact And.left (by assumption) | with_reducible exact And.left (And.right (by assumption)) | with_reducible refine Below.setCell ?_ (by dsimp only; omega) _ | with_reducible refine Below.allocE ?_ _ | with_reducible refine Below.drew ?_ | exact Below.refl _ _ | assumption | exact And.left (by assumption) | exact And.left (And.right (by assumption)) | refine Below.drew ?_ | refine Below.allocE ?_ _ | refine Below.setCell ?_ (by dsimp only; omega) _))) | exact cell_ext (by go_keep) hbf | (refine Below.ext ?_ hbf; first | assumption | exact And.left (by assumption) | exact And.left (And.right (by assumption)) | (repeat (first | with_reducible exact Below.refl _ _ | with_reducible assumption | with_reducible exact And.left (by assumption) | with_reducible exact And.left (And.right (by assumption)) | with_reducible refine Below.setCell ?_ (by dsimp only; omega) _ | with_reducible refine Below.allocE ?_ _ | with_reducible refine Below.drew ?_ | exact Below.refl _ _ | assumption | exact And.left (by assumption) | exact And.left (And.right (by assumption)) | refine Below.drew ?_ | refine Below.allocE ?_ _ | refine Below.setCell ?_ (by dsimp only; omega) _))) | (repeat (first | with_reducible exact Below.refl _ _ | with_reducible assumption | with_reducible exact And.left (by assumption) | with_reducible exact And.left (And.right (by assumption)) | with_reducible refine Below.setCell ?_ (by dsimp only; omega) _ | with_reducible refine Below.allocE ?_ _ | with_reducible refine Below.drew ?_ | exact Below.refl _ _ | assumption | exact And.left (by assumption) | exact And.left (And.right (by assumption)) | refine Below.drew ?_ | refine Below.allocE ?_ _ | refine Below.setCell ?_ (by dsimp only; omega) _))))
  refine wpAnyH_take (i := 0) (oi := { dst := some 7, op := Op.load 56 (Operand.tmp 2), type := 56, pos := _, after := #[], guard := none }) (v := ?_) rfl (by kernel_rfl) (by kernel_rfl) (by kernel_rfl) (fun _ _ _ h => h) (Or.inl ⟨by rfl, ?_⟩) (by assumption) ?_
  rotate_left 1
  · (intro w hSw; (try dsimp only at hSw); go_simp; (try with_reducible rfl))
  (try simp only [Act.put, List.setIfInBounds_toArray, List.set_cons_zero, List.set_cons_succ])
  refine wpAnyH_take (i := 2) (oi := { dst := some 9, op := Op.load 29 (Operand.tmp 3), type := 29, pos := _, after := #[], guard := none }) (v := ?_) rfl (by kernel_rfl) (by kernel_rfl) (by kernel_rfl) (fun _ _ _ h => h) (Or.inl ⟨by rfl, ?_⟩) (by assumption) ?_
  rotate_left 1
  · (intro w hSw; (try dsimp only at hSw); go_simp; (try with_reducible rfl))
  (try simp only [Act.put, List.setIfInBounds_toArray, List.set_cons_zero, List.set_cons_succ])
  refine wpAnyH_ready (rs := [1]) (by kernel_rfl) (by simp) ?_
  refine AllReadyH.cons (o := { dst := some 8, op := Op.call { callee := Callee.value (Operand.func 74), args := #[Operand.tmp 7], argTypes := #[56] }, type := 30, pos := _, after := #[{ on := 0, ground := Ground.data }], guard := none }) rfl (fun K hK => ?_) AllReadyH.nil
  (first | (first | (go_at_call 74; refine (CheckChord_c b a _).mono ?_; rintro e w' ⟨rfl, hbe⟩) | (go_at_call 59; refine (CheckTrace_c (.slice A t.vals.length c) (.slice A' t.holes.length c') t _ ((hb.below hbe).more hbe.size)).mono ?_; rintro e w' ⟨rfl, hbf⟩) | (go_at_call 56; refine (first_c _ [?_, ?_] _ ?_).mono ?_; rotate_left 2; (refine Rd.fresh _ _ _ _ ?_ ?_ ?_ <;> simp); rintro e w' ⟨rfl, rfl⟩)) | (go_simp; (first | (go_at_call 74; refine (CheckChord_c b a _).mono ?_; rintro e w' ⟨rfl, hbe⟩) | (go_at_call 59; refine (CheckTrace_c (.slice A t.vals.length c) (.slice A' t.holes.length c') t _ ((hb.below hbe).more hbe.size)).mono ?_; rintro e w' ⟨rfl, hbf⟩) | (go_at_call 56; refine (first_c _ [?_, ?_] _ ?_).mono ?_; rotate_left 2; (refine Rd.fresh _ _ _ _ ?_ ?_ ?_ <;> simp); rintro e w' ⟨rfl, rfl⟩))))
  refine hK.out _ _ ?_ (fun hNew => ?_)
  · (try dsimp only); ((repeat' apply And.intro) <;> first | go_keep | exact cell_ext (by go_keep) hbe | (refine Below.ext ?_ hbe; first | assumption | exact And.left (by assumption) | exact And.left (And.right (by assumption)) | (repeat (first | with_reducible exact Below.refl _ _ | with_reducible assumption | with_reducible exact And.left (by assumption) | with_reducible exact And.left (And.right (by assumption)) | with_reducible refine Below.setCell ?_ (by dsimp only; omega) _ | with_reducible refine Below.allocE ?_ _ | with_reducible refine Below.drew ?_ | exact Below.refl _ _ | assumption | exact And.left (by assumption) | exact And.left (And.right (by assumption)) | refine Below.drew ?_ | refine Below.allocE ?_ _ | refine Below.setCell ?_ (by dsimp only; omega) _))) | exact cell_ext (by go_keep) hbf | (refine Below.ext ?_ hbf; first | assumption | exact And.left (by assumption) | exact And.left (And.right (by assumption)) | (repeat (first | with_reducible exact Below.refl _ _ | with_reducible assumption | with_reducible exact And.left (by assumption) | with_reducible exact And.left (And.right (by assumption)) | with_reducible refine Below.setCell ?_ (by dsimp only; omega) _ | with_reducible refine Below.allocE ?_ _ | with_reducible refine Below.drew ?_ | exact Below.refl _ _ | assumption | exact And.left (by assumption) | exact And.left (And.right (by assumption)) | refine Below.drew ?_ | refine Below.allocE ?_ _ | refine Below.setCell ?_ (by dsimp only; omega) _))) | (repeat (first | with_reducible exact Below.refl _ _ | with_reducible assumption | with_reducible exact And.left (by assumption) | with_reducible exact And.left (And.right (by assumption)) | with_reducible refine Below.setCell ?_ (by dsimp only; omega) _ | with_reducible refine Below.allocE ?_ _ | with_reducible refine Below.drew ?_ | exact Below.refl _ _ | assumption | exact And.left (by assumption) | exact And.left (And.right (by assumption)) | refine Below.drew ?_ | refine Below.allocE ?_ _ | refine Below.setCell ?_ (by dsimp only; omega) _)))
  clear hK K
  have hHeld := hNew
  clear hNew
  (try dsimp only at hHeld)
  (try simp only [Act.put, List.setIfInBounds_toArray, List.set_cons_zero, List.set_cons_succ])
  refine wpAnyH_ready (rs := [3]) (by kernel_rfl) (by simp) ?_
  refine AllReadyH.cons (o := { dst := some 10, op := Op.call { callee := Callee.value (Operand.func 59), args := #[Operand.tmp 9], argTypes := #[29] }, type := 30, pos := _, after := #[{ on := 2, ground := Ground.data }, { on := 1, ground := Ground.chain }], guard := none }) rfl (fun K hK => ?_) AllReadyH.nil
  (first | (first | (go_at_call 74; refine (CheckChord_c b a _).mono ?_; rintro e w' ⟨rfl, hbe⟩) | (go_at_call 59; refine (CheckTrace_c (.slice A t.vals.length c) (.slice A' t.holes.length c') t _ ((hb.below hbe).more hbe.size)).mono ?_; rintro e w' ⟨rfl, hbf⟩) | (go_at_call 56; refine (first_c _ [?_, ?_] _ ?_).mono ?_; rotate_left 2; (refine Rd.fresh _ _ _ _ ?_ ?_ ?_ <;> simp); rintro e w' ⟨rfl, rfl⟩)) | (go_simp; (first | (go_at_call 74; refine (CheckChord_c b a _).mono ?_; rintro e w' ⟨rfl, hbe⟩) | (go_at_call 59; refine (CheckTrace_c (.slice A t.vals.length c) (.slice A' t.holes.length c') t _ ((hb.below hbe).more hbe.size)).mono ?_; rintro e w' ⟨rfl, hbf⟩) | (go_at_call 56; refine (first_c _ [?_, ?_] _ ?_).mono ?_; rotate_left 2; (refine Rd.fresh _ _ _ _ ?_ ?_ ?_ <;> simp); rintro e w' ⟨rfl, rfl⟩))))
  refine hK.out _ _ ?_ (fun hNew => ?_)
  · (try dsimp only); ((repeat' apply And.intro) <;> first | go_keep | exact cell_ext (by go_keep) hbe | (refine Below.ext ?_ hbe; first | assumption | exact And.left (by assumption) | exact And.left (And.right (by assumption)) | (repeat (first | with_reducible exact Below.refl _ _ | with_reducible assumption | with_reducible exact And.left (by assumption) | with_reducible exact And.left (And.right (by assumption)) | with_reducible refine Below.setCell ?_ (by dsimp only; omega) _ | with_reducible refine Below.allocE ?_ _ | with_reducible refine Below.drew ?_ | exact Below.refl _ _ | assumption | exact And.left (by assumption) | exact And.left (And.right (by assumption)) | refine Below.drew ?_ | refine Below.allocE ?_ _ | refine Below.setCell ?_ (by dsimp only; omega) _))) | exact cell_ext (by go_keep) hbf | (refine Below.ext ?_ hbf; first | assumption | exact And.left (by assumption) | exact And.left (And.right (by assumption)) | (repeat (first | with_reducible exact Below.refl _ _ | with_reducible assumption | with_reducible exact And.left (by assumption) | with_reducible exact And.left (And.right (by assumption)) | with_reducible refine Below.setCell ?_ (by dsimp only; omega) _ | with_reducible refine Below.allocE ?_ _ | with_reducible refine Below.drew ?_ | exact Below.refl _ _ | assumption | exact And.left (by assumption) | exact And.left (And.right (by assumption)) | refine Below.drew ?_ | refine Below.allocE ?_ _ | refine Below.setCell ?_ (by dsimp only; omega) _))) | (repeat (first | with_reducible exact Below.refl _ _ | with_reducible assumption | with_reducible exact And.left (by assumption) | with_reducible exact And.left (And.right (by assumption)) | with_reducible refine Below.setCell ?_ (by dsimp only; omega) _ | with_reducible refine Below.allocE ?_ _ | with_reducible refine Below.drew ?_ | exact Below.refl _ _ | assumption | exact And.left (by assumption) | exact And.left (And.right (by assumption)) | refine Below.drew ?_ | refine Below.allocE ?_ _ | refine Below.setCell ?_ (by dsimp only; omega) _)))
  clear hK K
  have hHeld := hNew
  clear hNew
  (try dsimp only at hHeld)
  (try simp only [Act.put, List.setIfInBounds_toArray, List.set_cons_zero, List.set_cons_succ])
  refine wpAnyH_ready (rs := [4]) (by kernel_rfl) (by simp) ?_
  refine AllReadyH.cons (o := { dst := some 11, op := Op.buildSlice 129 2 #[(0, Operand.tmp 8), (1, Operand.tmp 10)], type := 129, pos := _, after := #[{ on := 1, ground := Ground.data }, { on := 3, ground := Ground.data }], guard := none }) rfl (fun K hK => ?_) AllReadyH.nil
  (first  | go_simp)
  refine hK.out _ _ ?_ (fun hNew => ?_)
  · (try dsimp only); ((repeat' apply And.intro) <;> first | go_keep | exact cell_ext (by go_keep) hbe | (refine Below.ext ?_ hbe; first | assumption | exact And.left (by assumption) | exact And.left (And.right (by assumption)) | (repeat (first | with_reducible exact Below.refl _ _ | with_reducible assumption | with_reducible exact And.left (by assumption) | with_reducible exact And.left (And.right (by assumption)) | with_reducible refine Below.setCell ?_ (by dsimp only; omega) _ | with_reducible refine Below.allocE ?_ _ | with_reducible refine Below.drew ?_ | exact Below.refl _ _ | assumption | exact And.left (by assumption) | exact And.left (And.right (by assumption)) | refine Below.drew ?_ | refine Below.allocE ?_ _ | refine Below.setCell ?_ (by dsimp only; omega) _))) | exact cell_ext (by go_keep) hbf | (refine Below.ext ?_ hbf; first | assumption | exact And.left (by assumption) | exact And.left (And.right (by assumption)) | (repeat (first | with_reducible exact Below.refl _ _ | with_reducible assumption | with_reducible exact And.left (by assumption) | with_reducible exact And.left (And.right (by assumption)) | with_reducible refine Below.setCell ?_ (by dsimp only; omega) _ | with_reducible refine Below.allocE ?_ _ | with_reducible refine Below.drew ?_ | exact Below.refl _ _ | assumption | exact And.left (by assumption) | exact And.left (And.right (by assumption)) | refine Below.drew ?_ | refine Below.allocE ?_ _ | refine Below.setCell ?_ (by dsimp only; omega) _))) | (repeat (first | with_reducible exact Below.refl _ _ | with_reducible assumption | with_reducible exact And.left (by assumption) | with_reducible exact And.left (And.right (by assumption)) | with_reducible refine Below.setCell ?_ (by dsimp only; omega) _ | with_reducible refine Below.allocE ?_ _ | with_reducible refine Below.drew ?_ | exact Below.refl _ _ | assumption | exact And.left (by assumption) | exact And.left (And.right (by assumption)) | refine Below.drew ?_ | refine Below.allocE ?_ _ | refine Below.setCell ?_ (by dsimp only; omega) _)))
  clear hK K
  have hHeld := hNew
  clear hNew
  (try dsimp only at hHeld)
  (try simp only [Act.put, List.setIfInBounds_toArray, List.set_cons_zero, List.set_cons_succ])
  refine wpAnyH_ready (rs := [5]) (by kernel_rfl) (by simp) ?_
  refine AllReadyH.cons (o := { dst := some 12, op := Op.call { callee := Callee.value (Operand.func 56), args := #[Operand.tmp 11], argTypes := #[129] }, type := 30, pos := _, after := #[{ on := 4, ground := Ground.data }, { on := 3, ground := Ground.chain }], guard := none }) rfl (fun K hK => ?_) AllReadyH.nil
  (first | (first | (go_at_call 74; refine (CheckChord_c b a _).mono ?_; rintro e w' ⟨rfl, hbe⟩) | (go_at_call 59; refine (CheckTrace_c (.slice A t.vals.length c) (.slice A' t.holes.length c') t _ ((hb.below hbe).more hbe.size)).mono ?_; rintro e w' ⟨rfl, hbf⟩) | (go_at_call 56; refine (first_c _ [?_, ?_] _ ?_).mono ?_; rotate_left 2; (refine Rd.fresh _ _ _ _ ?_ ?_ ?_ <;> simp); rintro e w' ⟨rfl, rfl⟩)) | (go_simp; (first | (go_at_call 74; refine (CheckChord_c b a _).mono ?_; rintro e w' ⟨rfl, hbe⟩) | (go_at_call 59; refine (CheckTrace_c (.slice A t.vals.length c) (.slice A' t.holes.length c') t _ ((hb.below hbe).more hbe.size)).mono ?_; rintro e w' ⟨rfl, hbf⟩) | (go_at_call 56; refine (first_c _ [?_, ?_] _ ?_).mono ?_; rotate_left 2; (refine Rd.fresh _ _ _ _ ?_ ?_ ?_ <;> simp); rintro e w' ⟨rfl, rfl⟩))))
  refine hK.out _ _ ?_ (fun hNew => ?_)
  · (try dsimp only); ((repeat' apply And.intro) <;> first | go_keep | exact cell_ext (by go_keep) hbe | (refine Below.ext ?_ hbe; first | assumption | exact And.left (by assumption) | exact And.left (And.right (by assumption)) | (repeat (first | with_reducible exact Below.refl _ _ | with_reducible assumption | with_reducible exact And.left (by assumption) | with_reducible exact And.left (And.right (by assumption)) | with_reducible refine Below.setCell ?_ (by dsimp only; omega) _ | with_reducible refine Below.allocE ?_ _ | with_reducible refine Below.drew ?_ | exact Below.refl _ _ | assumption | exact And.left (by assumption) | exact And.left (And.right (by assumption)) | refine Below.drew ?_ | refine Below.allocE ?_ _ | refine Below.setCell ?_ (by dsimp only; omega) _))) | exact cell_ext (by go_keep) hbf | (refine Below.ext ?_ hbf; first | assumption | exact And.left (by assumption) | exact And.left (And.right (by assumption)) | (repeat (first | with_reducible exact Below.refl _ _ | with_reducible assumption | with_reducible exact And.left (by assumption) | with_reducible exact And.left (And.right (by assumption)) | with_reducible refine Below.setCell ?_ (by dsimp only; omega) _ | with_reducible refine Below.allocE ?_ _ | with_reducible refine Below.drew ?_ | exact Below.refl _ _ | assumption | exact And.left (by assumption) | exact And.left (And.right (by assumption)) | refine Below.drew ?_ | refine Below.allocE ?_ _ | refine Below.setCell ?_ (by dsimp only; omega) _))) | (repeat (first | with_reducible exact Below.refl _ _ | with_reducible assumption | with_reducible exact And.left (by assumption) | with_reducible exact And.left (And.right (by assumption)) | with_reducible refine Below.setCell ?_ (by dsimp only; omega) _ | with_reducible refine Below.allocE ?_ _ | with_reducible refine Below.drew ?_ | exact Below.refl _ _ | assumption | exact And.left (by assumption) | exact And.left (And.right (by assumption)) | refine Below.drew ?_ | refine Below.allocE ?_ _ | refine Below.setCell ?_ (by dsimp only; omega) _)))
  clear hK K
  have hHeld := hNew
  clear hNew
  (try dsimp only at hHeld)
  (try simp only [Act.put, List.setIfInBounds_toArray, List.set_cons_zero, List.set_cons_succ])
  refine wpAnyH_take (i := 6) (oi := { dst := some 6, op := Op.assign (Operand.tmp 12), type := 30, pos := _, after := #[{ on := 5, ground := Ground.data }, { on := 5, ground := Ground.chain }, { on := 0, ground := Ground.phase }, { on := 1, ground := Ground.phase }, { on := 2, ground := Ground.phase }, { on := 3, ground := Ground.phase }, { on := 4, ground := Ground.phase }, { on := 5, ground := Ground.phase }], guard := none }) (v := ?_) rfl (by kernel_rfl) (by kernel_rfl) (by kernel_rfl) (fun _ _ _ h => h) (Or.inl ⟨by rfl, ?_⟩) (by assumption) ?_
  rotate_left 1
  · (intro w hSw; (try dsimp only at hSw); go_simp; (try with_reducible rfl))
  (try simp only [Act.put, List.setIfInBounds_toArray, List.set_cons_zero, List.set_cons_succ])
  refine wpAnyH_done (by kernel_rfl) ?_ _
  refine NoPanic.normal ?_
  have hX : Below W.drew.heap.size W.drew (w'.alloc (.cells #[.int .i64 (chordS b a), .int .i64 (traceS t)] 30)) := Below.allocE (Below.ext hbe hbf) _
  obtain ⟨hA, u0, u1, u2, u3, u4⟩ := hHeld
  clear hbe hbf
  generalize World.alloc w' _ = X at *
  have m3 := k3.drew.ext hX
  have hb2 := (hb.below hX).more hX.size
  by_cases he : firstS [chordS b a, traceS t] = 0
  · have hok := he
    rw [firstS_eq] at hok
    have ok1 := chordS_ok (hok (chordS b a) (by simp))
    have ok2 := traceS_ok (hok (traceS t) (by simp))
    clear hok
    go_wp2
    obtain ⟨T, hT⟩ : ∃ T, VersinesS b a t = T := ⟨_, rfl⟩
    have hT2 : foldedS t.first t.vals (knS t.vals.length t.holes) (termsS b a) (-b) a = T := by rw [← hT]; unfold VersinesS; rw [if_neg (by simpa using he)]
    rw [hT]
    have hs2 := hX.size
    simp only [World.drew] at hs2
    have hx3 := m3.lt
    have hb3 : RdT X.drew X.drew.heap.size (.slice A t.vals.length c) (.slice A' t.holes.length c') t := ⟨hb2.1.drew, hb2.2.drew⟩
    refine wp_region_noPanic ?_
    refine wp_region_held_drew (S := fun w' => Below w.heap.size w w' ∧ w'.cell? ⟨w.heap.size, 0, none⟩ = some (.int .i64 b) ∧ w'.cell? ⟨w.heap.size, 1, none⟩ = some (.int .i64 a) ∧ w'.cell? ⟨w.heap.size + 1, 0, none⟩ = some (.int .i64 t.first) ∧ w'.cell? ⟨w.heap.size + 1, 1, none⟩ = some (.slice A t.vals.length c) ∧ w'.cell? ⟨w.heap.size + 1, 2, none⟩ = some (.slice A' t.holes.length c')) (by kernel_rfl) ?_ (fun hHeld => ?_)
    · first | exact rfl | ((try dsimp only); ((repeat' apply And.intro) <;> first | go_keep | exact cell_ext (by go_keep) hbe | (refine Below.ext ?_ hbe; first | assumption | exact And.left (by assumption) | exact And.left (And.right (by assumption)) | (repeat (first | with_reducible exact Below.refl _ _ | with_reducible assumption | with_reducible exact And.left (by assumption) | with_reducible exact And.left (And.right (by assumption)) | with_reducible refine Below.setCell ?_ (by dsimp only; omega) _ | with_reducible refine Below.allocE ?_ _ | with_reducible refine Below.drew ?_ | exact Below.refl _ _ | assumption | exact And.left (by assumption) | exact And.left (And.right (by assumption)) | refine Below.drew ?_ | refine Below.allocE ?_ _ | refine Below.setCell ?_ (by dsimp only; omega) _))) | exact cell_ext (by go_keep) hbf | (refine Below.ext ?_ hbf; first | assumption | exact And.left (by assumption) | exact And.left (And.right (by assumption)) | (repeat (first | with_reducible exact Below.refl _ _ | with_reducible assumption | with_reducible exact And.left (by assumption) | with_reducible exact And.left (And.right (by assumption)) | with_reducible refine Below.setCell ?_ (by dsimp only; omega) _ | with_reducible refine Below.allocE ?_ _ | with_reducible refine Below.drew ?_ | exact Below.refl _ _ | assumption | exact And.left (by assumption) | exact And.left (And.right (by assumption)) | refine Below.drew ?_ | refine Below.allocE ?_ _ | refine Below.setCell ?_ (by dsimp only; omega) _))) | (repeat (first | with_reducible exact Below.refl _ _ | with_reducible assumption | with_reducible exact And.left (by assumption) | with_reducible exact And.left (And.right (by assumption)) | with_reducible refine Below.setCell ?_ (by dsimp only; omega) _ | with_reducible refine Below.allocE ?_ _ | with_reducible refine Below.drew ?_ | exact Below.refl _ _ | assumption | exact And.left (by assumption) | exact And.left (And.right (by assumption)) | refine Below.drew ?_ | refine Below.allocE ?_ _ | refine Below.setCell ?_ (by dsimp only; omega) _))))
    refine wpAnyH_take (i := 0) (oi := { dst := some 17, op := Op.load 29 (Operand.tmp 3), type := 29, pos := _, after := #[], guard := none }) (v := ?_) rfl (by kernel_rfl) (by kernel_rfl) (by kernel_rfl) (fun _ _ _ h => h) (Or.inl ⟨by rfl, ?_⟩) (by assumption) ?_
    rotate_left 1
    · (intro w hSw; (try dsimp only at hSw); go_simp; (try with_reducible rfl))
    (try simp only [Act.put, List.setIfInBounds_toArray, List.set_cons_zero, List.set_cons_succ])
    refine wpAnyH_take (i := 2) (oi := { dst := some 19, op := Op.load 56 (Operand.tmp 2), type := 56, pos := _, after := #[], guard := none }) (v := ?_) rfl (by kernel_rfl) (by kernel_rfl) (by kernel_rfl) (fun _ _ _ h => h) (Or.inl ⟨by rfl, ?_⟩) (by assumption) ?_
    rotate_left 1
    · (intro w hSw; (try dsimp only at hSw); go_simp; (try with_reducible rfl))
    (try simp only [Act.put, List.setIfInBounds_toArray, List.set_cons_zero, List.set_cons_succ])
    refine wpAnyH_ready (rs := [1]) (by kernel_rfl) (by simp) ?_
    refine AllReadyH.cons (o := { dst := some 18, op := Op.call { callee := Callee.value (Operand.func 62), args := #[Operand.tmp 17], argTypes := #[29] }, type := 114, pos := _, after := #[{ on := 0, ground := Ground.data }], guard := none }) rfl (fun K hK => ?_) AllReadyH.nil
    (first | (first | (go_at_call 62; refine (read_c (.slice A t.vals.length c) (.slice A' t.holes.length c') t _ hb3 ok2.len ok2.holes).mono ?_; rintro e w' ⟨g, rfl, hg, hbe⟩) | (go_at_call 80; refine (versines_c t.first b a (.slice A t.vals.length c) (.slice A' t.holes.length c') (.slice (some ⟨g, 0, none⟩) t.vals.length t.vals.length) t.vals (knS t.vals.length t.holes) _ ok1.1.1 ok1.1.2 ok1.2.1 ok1.2.2 ((hb3.1.below hbe).more hbe.size) (by have := hg.rd (by have := ok2.len; simp [bools, knS_len]; omega); simpa [bools_len, knS_len] using this) (knS_len _ _) ok2.f0 ok2.f1 ok2.len ok2.val).mono ?_; rintro e w' ⟨rv, rh, rfl, hr, hf1, hf2, hbf⟩; rw [hT2] at hr ⊢; obtain ⟨RA, rc, rfl, hr1, hr2⟩ := hr.1.slice; obtain ⟨RB, rd, rfl, hr3, hr4⟩ := hr.2.slice)) | (go_simp; (first | (go_at_call 62; refine (read_c (.slice A t.vals.length c) (.slice A' t.holes.length c') t _ hb3 ok2.len ok2.holes).mono ?_; rintro e w' ⟨g, rfl, hg, hbe⟩) | (go_at_call 80; refine (versines_c t.first b a (.slice A t.vals.length c) (.slice A' t.holes.length c') (.slice (some ⟨g, 0, none⟩) t.vals.length t.vals.length) t.vals (knS t.vals.length t.holes) _ ok1.1.1 ok1.1.2 ok1.2.1 ok1.2.2 ((hb3.1.below hbe).more hbe.size) (by have := hg.rd (by have := ok2.len; simp [bools, knS_len]; omega); simpa [bools_len, knS_len] using this) (knS_len _ _) ok2.f0 ok2.f1 ok2.len ok2.val).mono ?_; rintro e w' ⟨rv, rh, rfl, hr, hf1, hf2, hbf⟩; rw [hT2] at hr ⊢; obtain ⟨RA, rc, rfl, hr1, hr2⟩ := hr.1.slice; obtain ⟨RB, rd, rfl, hr3, hr4⟩ := hr.2.slice))))
    refine hK.out _ _ ?_ (fun hNew => ?_)
    · (try dsimp only); ((repeat' apply And.intro) <;> first | go_keep | exact cell_ext (by go_keep) hbe | (refine Below.ext ?_ hbe; first | assumption | exact And.left (by assumption) | exact And.left (And.right (by assumption)) | (repeat (first | with_reducible exact Below.refl _ _ | with_reducible assumption | with_reducible exact And.left (by assumption) | with_reducible exact And.left (And.right (by assumption)) | with_reducible refine Below.setCell ?_ (by dsimp only; omega) _ | with_reducible refine Below.allocE ?_ _ | with_reducible refine Below.drew ?_ | exact Below.refl _ _ | assumption | exact And.left (by assumption) | exact And.left (And.right (by assumption)) | refine Below.drew ?_ | refine Below.allocE ?_ _ | refine Below.setCell ?_ (by dsimp only; omega) _))) | exact cell_ext (by go_keep) hbf | (refine Below.ext ?_ hbf; first | assumption | exact And.left (by assumption) | exact And.left (And.right (by assumption)) | (repeat (first | with_reducible exact Below.refl _ _ | with_reducible assumption | with_reducible exact And.left (by assumption) | with_reducible exact And.left (And.right (by assumption)) | with_reducible refine Below.setCell ?_ (by dsimp only; omega) _ | with_reducible refine Below.allocE ?_ _ | with_reducible refine Below.drew ?_ | exact Below.refl _ _ | assumption | exact And.left (by assumption) | exact And.left (And.right (by assumption)) | refine Below.drew ?_ | refine Below.allocE ?_ _ | refine Below.setCell ?_ (by dsimp only; omega) _))) | (repeat (first | with_reducible exact Below.refl _ _ | with_reducible assumption | with_reducible exact And.left (by assumption) | with_reducible exact And.left (And.right (by assumption)) | with_reducible refine Below.setCell ?_ (by dsimp only; omega) _ | with_reducible refine Below.allocE ?_ _ | with_reducible refine Below.drew ?_ | exact Below.refl _ _ | assumption | exact And.left (by assumption) | exact And.left (And.right (by assumption)) | refine Below.drew ?_ | refine Below.allocE ?_ _ | refine Below.setCell ?_ (by dsimp only; omega) _)))
    clear hK K
    have hHeld := hNew
    clear hNew
    (try dsimp only at hHeld)
    (try simp only [Act.put, List.setIfInBounds_toArray, List.set_cons_zero, List.set_cons_succ])
    refine wpAnyH_ready (rs := [3]) (by kernel_rfl) (by simp) ?_
    refine AllReadyH.cons (o := { dst := some 20, op := Op.call { callee := Callee.value (Operand.func 80), args := #[Operand.tmp 18, Operand.tmp 19], argTypes := #[114, 56] }, type := 31, pos := _, after := #[{ on := 1, ground := Ground.data }, { on := 2, ground := Ground.data }, { on := 1, ground := Ground.chain }], guard := none }) rfl (fun K hK => ?_) AllReadyH.nil
    (first | (first | (go_at_call 62; refine (read_c (.slice A t.vals.length c) (.slice A' t.holes.length c') t _ hb3 ok2.len ok2.holes).mono ?_; rintro e w' ⟨g, rfl, hg, hbe⟩) | (go_at_call 80; refine (versines_c t.first b a (.slice A t.vals.length c) (.slice A' t.holes.length c') (.slice (some ⟨g, 0, none⟩) t.vals.length t.vals.length) t.vals (knS t.vals.length t.holes) _ ok1.1.1 ok1.1.2 ok1.2.1 ok1.2.2 ((hb3.1.below hbe).more hbe.size) (by have := hg.rd (by have := ok2.len; simp [bools, knS_len]; omega); simpa [bools_len, knS_len] using this) (knS_len _ _) ok2.f0 ok2.f1 ok2.len ok2.val).mono ?_; rintro e w' ⟨rv, rh, rfl, hr, hf1, hf2, hbf⟩; rw [hT2] at hr ⊢; obtain ⟨RA, rc, rfl, hr1, hr2⟩ := hr.1.slice; obtain ⟨RB, rd, rfl, hr3, hr4⟩ := hr.2.slice)) | (go_simp; (first | (go_at_call 62; refine (read_c (.slice A t.vals.length c) (.slice A' t.holes.length c') t _ hb3 ok2.len ok2.holes).mono ?_; rintro e w' ⟨g, rfl, hg, hbe⟩) | (go_at_call 80; refine (versines_c t.first b a (.slice A t.vals.length c) (.slice A' t.holes.length c') (.slice (some ⟨g, 0, none⟩) t.vals.length t.vals.length) t.vals (knS t.vals.length t.holes) _ ok1.1.1 ok1.1.2 ok1.2.1 ok1.2.2 ((hb3.1.below hbe).more hbe.size) (by have := hg.rd (by have := ok2.len; simp [bools, knS_len]; omega); simpa [bools_len, knS_len] using this) (knS_len _ _) ok2.f0 ok2.f1 ok2.len ok2.val).mono ?_; rintro e w' ⟨rv, rh, rfl, hr, hf1, hf2, hbf⟩; rw [hT2] at hr ⊢; obtain ⟨RA, rc, rfl, hr1, hr2⟩ := hr.1.slice; obtain ⟨RB, rd, rfl, hr3, hr4⟩ := hr.2.slice))))
    refine hK.out _ _ ?_ (fun hNew => ?_)
    · (try dsimp only); ((repeat' apply And.intro) <;> first | go_keep | exact cell_ext (by go_keep) hbe | (refine Below.ext ?_ hbe; first | assumption | exact And.left (by assumption) | exact And.left (And.right (by assumption)) | (repeat (first | with_reducible exact Below.refl _ _ | with_reducible assumption | with_reducible exact And.left (by assumption) | with_reducible exact And.left (And.right (by assumption)) | with_reducible refine Below.setCell ?_ (by dsimp only; omega) _ | with_reducible refine Below.allocE ?_ _ | with_reducible refine Below.drew ?_ | exact Below.refl _ _ | assumption | exact And.left (by assumption) | exact And.left (And.right (by assumption)) | refine Below.drew ?_ | refine Below.allocE ?_ _ | refine Below.setCell ?_ (by dsimp only; omega) _))) | exact cell_ext (by go_keep) hbf | (refine Below.ext ?_ hbf; first | assumption | exact And.left (by assumption) | exact And.left (And.right (by assumption)) | (repeat (first | with_reducible exact Below.refl _ _ | with_reducible assumption | with_reducible exact And.left (by assumption) | with_reducible exact And.left (And.right (by assumption)) | with_reducible refine Below.setCell ?_ (by dsimp only; omega) _ | with_reducible refine Below.allocE ?_ _ | with_reducible refine Below.drew ?_ | exact Below.refl _ _ | assumption | exact And.left (by assumption) | exact And.left (And.right (by assumption)) | refine Below.drew ?_ | refine Below.allocE ?_ _ | refine Below.setCell ?_ (by dsimp only; omega) _))) | (repeat (first | with_reducible exact Below.refl _ _ | with_reducible assumption | with_reducible exact And.left (by assumption) | with_reducible exact And.left (And.right (by assumption)) | with_reducible refine Below.setCell ?_ (by dsimp only; omega) _ | with_reducible refine Below.allocE ?_ _ | with_reducible refine Below.drew ?_ | exact Below.refl _ _ | assumption | exact And.left (by assumption) | exact And.left (And.right (by assumption)) | refine Below.drew ?_ | refine Below.allocE ?_ _ | refine Below.setCell ?_ (by dsimp only; omega) _)))
    clear hK K
    have hHeld := hNew
    clear hNew
    (try dsimp only at hHeld)
    (try simp only [Act.put, List.setIfInBounds_toArray, List.set_cons_zero, List.set_cons_succ])
    refine wpAnyH_take (i := 4) (oi := { dst := some 21, op := Op.extract (Operand.tmp 20) 0, type := 29, pos := _, after := #[{ on := 3, ground := Ground.data }], guard := none }) (v := ?_) rfl (by kernel_rfl) (by kernel_rfl) (by kernel_rfl) (fun _ _ _ h => h) (Or.inl ⟨by rfl, ?_⟩) (by assumption) ?_
    rotate_left 1
    · (intro w hSw; (try dsimp only at hSw); go_simp; (try with_reducible rfl))
    (try simp only [Act.put, List.setIfInBounds_toArray, List.set_cons_zero, List.set_cons_succ])
    refine wpAnyH_take (i := 5) (oi := { dst := some 22, op := Op.extract (Operand.tmp 20) 1, type := 30, pos := _, after := #[{ on := 3, ground := Ground.data }], guard := none }) (v := ?_) rfl (by kernel_rfl) (by kernel_rfl) (by kernel_rfl) (fun _ _ _ h => h) (Or.inl ⟨by rfl, ?_⟩) (by assumption) ?_
    rotate_left 1
    · (intro w hSw; (try dsimp only at hSw); go_simp; (try with_reducible rfl))
    (try simp only [Act.put, List.setIfInBounds_toArray, List.set_cons_zero, List.set_cons_succ])
    refine wpAnyH_ready (rs := [6]) (by kernel_rfl) (by simp) ?_
    refine AllReadyH.cons (o := { dst := none, op := Op.store 29 (Operand.tmp 4) (Operand.tmp 21), type := 0, pos := _, after := #[{ on := 4, ground := Ground.data }, { on := 3, ground := Ground.chain }, { on := 0, ground := Ground.phase }, { on := 1, ground := Ground.phase }, { on := 2, ground := Ground.phase }, { on := 3, ground := Ground.phase }, { on := 4, ground := Ground.phase }, { on := 5, ground := Ground.phase }], guard := none }) rfl (fun K hK => ?_) AllReadyH.nil
    (first | ((try simp only [trv]); have q0 := ((m3.drew.ext hbe).ext hbf).c 0 _ rfl; have q1 := ((m3.drew.ext hbe).ext hbf).c 1 _ rfl; have q2 := ((m3.drew.ext hbe).ext hbf).c 2 _ rfl; have q3 := ((m3.drew.ext hbe).ext hbf).frozen; go_simp) | go_simp)
    refine hK.out _ _ ?_ (fun hNew => ?_)
    · (try dsimp only); ((repeat' apply And.intro) <;> first | go_keep | exact cell_ext (by go_keep) hbe | (refine Below.ext ?_ hbe; first | assumption | exact And.left (by assumption) | exact And.left (And.right (by assumption)) | (repeat (first | with_reducible exact Below.refl _ _ | with_reducible assumption | with_reducible exact And.left (by assumption) | with_reducible exact And.left (And.right (by assumption)) | with_reducible refine Below.setCell ?_ (by dsimp only; omega) _ | with_reducible refine Below.allocE ?_ _ | with_reducible refine Below.drew ?_ | exact Below.refl _ _ | assumption | exact And.left (by assumption) | exact And.left (And.right (by assumption)) | refine Below.drew ?_ | refine Below.allocE ?_ _ | refine Below.setCell ?_ (by dsimp only; omega) _))) | exact cell_ext (by go_keep) hbf | (refine Below.ext ?_ hbf; first | assumption | exact And.left (by assumption) | exact And.left (And.right (by assumption)) | (repeat (first | with_reducible exact Below.refl _ _ | with_reducible assumption | with_reducible exact And.left (by assumption) | with_reducible exact And.left (And.right (by assumption)) | with_reducible refine Below.setCell ?_ (by dsimp only; omega) _ | with_reducible refine Below.allocE ?_ _ | with_reducible refine Below.drew ?_ | exact Below.refl _ _ | assumption | exact And.left (by assumption) | exact And.left (And.right (by assumption)) | refine Below.drew ?_ | refine Below.allocE ?_ _ | refine Below.setCell ?_ (by dsimp only; omega) _))) | (repeat (first | with_reducible exact Below.refl _ _ | with_reducible assumption | with_reducible exact And.left (by assumption) | with_reducible exact And.left (And.right (by assumption)) | with_reducible refine Below.setCell ?_ (by dsimp only; omega) _ | with_reducible refine Below.allocE ?_ _ | with_reducible refine Below.drew ?_ | exact Below.refl _ _ | assumption | exact And.left (by assumption) | exact And.left (And.right (by assumption)) | refine Below.drew ?_ | refine Below.allocE ?_ _ | refine Below.setCell ?_ (by dsimp only; omega) _)))
    clear hK K
    have hHeld := hNew
    clear hNew
    (try dsimp only at hHeld)
    (try simp only [Act.put, List.setIfInBounds_toArray, List.set_cons_zero, List.set_cons_succ])
    refine wpAnyH_take (i := 7) (oi := { dst := some 5, op := Op.assign (Operand.tmp 22), type := 30, pos := _, after := #[{ on := 5, ground := Ground.data }, { on := 6, ground := Ground.chain }, { on := 0, ground := Ground.phase }, { on := 1, ground := Ground.phase }, { on := 2, ground := Ground.phase }, { on := 3, ground := Ground.phase }, { on := 4, ground := Ground.phase }, { on := 5, ground := Ground.phase }, { on := 6, ground := Ground.phase }], guard := none }) (v := ?_) rfl (by kernel_rfl) (by kernel_rfl) (by kernel_rfl) (fun _ _ _ h => h) (Or.inl ⟨by rfl, ?_⟩) (by assumption) ?_
    rotate_left 1
    · (intro w hSw; (try dsimp only at hSw); go_simp; (try with_reducible rfl))
    (try simp only [Act.put, List.setIfInBounds_toArray, List.set_cons_zero, List.set_cons_succ])
    refine wpAnyH_done (by kernel_rfl) ?_ _
    refine NoPanic.normal ?_
    have hs3 := hbe.size
    simp only [World.drew] at hs3
    have m9 := blk_trace ((m3.drew.ext hbe).ext hbf) (.int .i64 (T).1.first) (.slice RA (T).1.vals.length rc) (.slice RB (T).1.holes.length rd); have p0 := m9.c 0 _ rfl; have p1 := m9.c 1 _ rfl; have p2 := m9.c 2 _ rfl; have hB9 := hHeld.1; clear hHeld q0 q1 q2 q3; go_wp2; (try simp only [Exit.inBlock, Exit.then]); refine bodyPost_ret (v := .tuple #[trv (T).1.first (.slice RA (T).1.vals.length rc) (.slice RB (T).1.holes.length rd), .int .i64 (T).2]) (by simp [results, Tryz.results41, go_sem, p0, p1, p2, trv]) rfl ?_; (try rw [hT]); exact tr_end (G := w.heap.size + 1 + 1) hr hf1 hf2 (by omega) (by omega) _ _ _ hB9
  · have HE := Lib.hid he
    obtain ⟨e, hE⟩ : ∃ e, firstS [chordS b a, traceS t] = e := ⟨_, rfl⟩
    rw [hE] at he ⊢
    have q0 := m3.c 0 _ rfl
    have q1 := m3.c 1 _ rfl
    have q2 := m3.c 2 _ rfl
    have q3 := m3.frozen
    go_wp2
    have m4 := blk_trace m3 (.int .i64 0) (.slice none 0 0) (.slice none 0 0)
    have p0 := m4.c 0 _ rfl
    have p1 := m4.c 1 _ rfl
    have p2 := m4.c 2 _ rfl
    clear q0 q1 q2 q3
    (try simp only [Exit.inBlock, Exit.then]); refine bodyPost_ret (v := .tuple #[trv 0 (.slice none 0 0) (.slice none 0 0), .int .i64 e]) (by simp [results, Tryz.results41, go_sem, p0, p1, p2, trv]) rfl ?_
    unfold VersinesS
    rw [if_pos HE.out, hE]
    exact tr_none e (by (repeat (first | with_reducible exact Below.refl _ _ | with_reducible assumption | with_reducible exact And.left (by assumption) | with_reducible exact And.left (And.right (by assumption)) | with_reducible refine Below.setCell ?_ (by dsimp only; omega) _ | with_reducible refine Below.allocE ?_ _ | with_reducible refine Below.drew ?_ | exact Below.refl _ _ | assumption | exact And.left (by assumption) | exact And.left (And.right (by assumption)) | refine Below.drew ?_ | refine Below.allocE ?_ _ | refine Below.setCell ?_ (by dsimp only; omega) _)))

set_option maxRecDepth 20000 in
set_option maxHeartbeats 1000000 in
theorem Curvature_c (vv hv : Value) (t : Tr) (w : World) (h : RdT w w.heap.size vv hv t) :
    Calls Tryz.prog 43 #[trv t.first vv hv] w (TrPost w (VersinesS 1 1 t)) := by
  obtain ⟨A, c, rfl, h1, h2⟩ := h.1.slice
  obtain ⟨A', c', rfl, h1', h2'⟩ := h.2.slice
  unfold trv
  go_enter Tryz.func43, Tryz.ntmps43
  go_wp2_with fail
  obtain ⟨k1, k2, hB⟩ := alloc2 w #[.int .i64 t.first, .slice A t.vals.length c, .slice A' t.holes.length c'] #[.int .i64 0, .slice none 0 0, .slice none 0 0] 29 29
  generalize World.alloc (World.alloc w _) _ = W at *
  have hlt := k2.lt
  have hs0 := hB.size
  have hb : RdT W W.heap.size (.slice A t.vals.length c) (.slice A' t.holes.length c') t := (h.below hB).more hB.size
  obtain ⟨T, hT⟩ : ∃ T, VersinesS 1 1 t = T := ⟨_, rfl⟩
  refine (Versines_c 1 1 (.slice A t.vals.length c) (.slice A' t.holes.length c') t _ hb).mono ?_
  rintro e w' ⟨rv, rh, rfl, hr, hf1, hf2, hbf⟩
  rw [hT] at hr ⊢
  obtain ⟨RA, rc, rfl, hr1, hr2⟩ := hr.1.slice
  obtain ⟨RB, rd, rfl, hr3, hr4⟩ := hr.2.slice
  (try simp only [trv])
  have q0 := (k2.ext hbf).c 0 _ rfl; have q1 := (k2.ext hbf).c 1 _ rfl; have q2 := (k2.ext hbf).c 2 _ rfl; have q3 := (k2.ext hbf).frozen
  have hA : Below w.heap.size w w' := Below.ext hB hbf
  go_wp2
  have m9 := blk_trace (k2.ext hbf) (.int .i64 T.1.first) (.slice RA T.1.vals.length rc) (.slice RB T.1.holes.length rd)
  have p0 := m9.c 0 _ rfl; have p1 := m9.c 1 _ rfl; have p2 := m9.c 2 _ rfl
  clear q0 q1 q2 q3
  (try simp only [Exit.inBlock, Exit.then]); refine bodyPost_ret (v := .tuple #[trv T.1.first (.slice RA T.1.vals.length rc) (.slice RB T.1.holes.length rd), .int .i64 T.2]) (by simp [results, Tryz.results43, go_sem, p0, p1, p2, trv]) rfl ?_
  rw [hT]
  exact tr_end (G := w.heap.size + 1) hr hf1 hf2 (by omega) (by omega) _ _ _ (by (repeat (first | with_reducible exact Below.refl _ _ | with_reducible assumption | with_reducible exact And.left (by assumption) | with_reducible exact And.left (And.right (by assumption)) | with_reducible refine Below.setCell ?_ (by dsimp only; omega) _ | with_reducible refine Below.allocE ?_ _ | with_reducible refine Below.drew ?_ | exact Below.refl _ _ | assumption | exact And.left (by assumption) | exact And.left (And.right (by assumption)) | refine Below.drew ?_ | refine Below.allocE ?_ _ | refine Below.setCell ?_ (by dsimp only; omega) _)))

end Go.Proofs.YtbpffadffbgloaaGreatDoor
