/- Contract: read. -/
import Derived.Deep.DeepCutAuto
import Derived.Test.YtbpffadffbgloaaGreatDoorH
import Derived.Test.YtbpffadffbgloaaGreatDoorLast
import Derived.Test.YtbpffadffbgloaaGreatDoorD
set_option linter.unusedVariables false
set_option linter.unusedSimpArgs false
namespace Go.Proofs.YtbpffadffbgloaaGreatDoor
open Go.RowKit

/-- What is known of n values with holes. -/
def knS (n : Nat) (hs : List (Int × Int)) : List Bool := (List.range n).map fun (i : Nat) => !hs.any fun h => decide (h.1 ≤ (i : Int)) && decide ((i : Int) < h.2)
theorem knS_len (n : Nat) (hs : List (Int × Int)) : (knS n hs).length = n := by simp [knS]
theorem knS_nil (n : Nat) : knS n [] = List.replicate n true := by simp [knS, List.map_const']
theorem knS_empty (n : Nat) (hs : List (Int × Int)) (a : Int) : knS n (hs ++ [(a, a)]) = knS n hs := by
  unfold knS
  refine List.map_congr_left fun i _ => ?_
  rw [List.any_append]
  have : (decide (a ≤ (i : Int)) && decide ((i : Int) < a)) = false := by
    rw [Bool.and_eq_false_iff]; simp only [decide_eq_false_iff_not]; omega
  simp [this]
theorem knS_step (n : Nat) (hs : List (Int × Int)) (a j : Nat) (h : a + j < n) : (knS n (hs ++ [((a : Int), (a : Int) + j)])).set (a + j) false = knS n (hs ++ [((a : Int), (a : Int) + j + 1)]) := by
  refine List.ext_getElem (by simp [knS]) fun i h1 h2 => ?_
  rw [List.getElem_set]
  unfold knS
  simp only [List.getElem_map, List.getElem_range, List.any_append, List.any_cons, List.any_nil, Bool.or_false]
  split
  · rename_i e
    subst e
    have : (decide ((a : Int) ≤ ((a + j : Nat) : Int)) && decide (((a + j : Nat) : Int) < (a : Int) + j + 1)) = true := by
      simp only [Bool.and_eq_true, decide_eq_true_eq]; omega
    rw [this]; simp
  · rename_i e
    have : (decide ((a : Int) ≤ (i : Int)) && decide ((i : Int) < (a : Int) + j)) = (decide ((a : Int) ≤ (i : Int)) && decide ((i : Int) < (a : Int) + j + 1)) := by
      rw [Bool.eq_iff_iff]; simp only [Bool.and_eq_true, decide_eq_true_eq]; omega
    rw [this]

/-- The holes of a valid trace. -/
def HolesOk (n : Nat) (hs : List (Int × Int)) : Prop := ∀ p ∈ hs, 0 ≤ p.1 ∧ p.1 < p.2 ∧ p.2 ≤ n

def ReadPost (w : World) (f : Int) (vv hv : Value) (n : Nat) (hs : List (Int × Int)) (r : Ending) (w' : World) : Prop :=
  ∃ g, r = .returned (rdv f vv hv (.slice (some ⟨g, 0, none⟩) n n)) ∧ Blk w' g 4 (bools (knS n hs)).toArray ∧ Below w.heap.size w w'
def ReadOwn (w : World) (f : Int) (vv hv : Value) (n : Nat) (hs : List (Int × Int)) (r : Ending) (w' : World) : Prop :=
  ∃ g, r = .returned (rdv f vv hv (.slice (some ⟨g, 0, none⟩) n n)) ∧ Blk w' g 4 (bools (knS n hs)).toArray ∧ Below w.heap.size w w' ∧ w.heap.size ≤ g

set_option maxRecDepth 20000 in
set_option maxHeartbeats 1000000 in
theorem read_own (vv hv : Value) (t : Tr) (w : World) (h : RdT w w.heap.size vv hv t) (hl : t.vals.length ≤ 4096) (hok : HolesOk t.vals.length t.holes) :
    Calls Tryz.prog 62 #[trv t.first vv hv] w (ReadOwn w t.first vv hv t.vals.length t.holes) := by
  obtain ⟨f, l, hs⟩ := t
  obtain ⟨hv1, hv2⟩ := h
  dsimp only at hv1 hv2 hl hok ⊢
  unfold trv
  obtain ⟨A, c, rfl, h1, h2⟩ := hv1.slice
  obtain ⟨A', c', rfl, h1', h2'⟩ := hv2.slice
  go_enter Tryz.func62, Tryz.ntmps62
  go_upto_region 1 with fail
  have hB1 : Blk ((w.alloc (.cells #[.int .i64 f, .slice A l.length c, .slice A' hs.length c'] 29)).alloc (.cells #[.int .i64 0, .slice none 0 0, .slice none 0 0, .slice none 0 0] 114)) w.heap.size 29 #[.int .i64 f, .slice A l.length c, .slice A' hs.length c'] := (Blk.new _ _ _).alloc _
  have hB2 : Blk ((w.alloc (.cells #[.int .i64 f, .slice A l.length c, .slice A' hs.length c'] 29)).alloc (.cells #[.int .i64 0, .slice none 0 0, .slice none 0 0, .slice none 0 0] 114)) (w.heap.size + 1) 114 #[.int .i64 0, .slice none 0 0, .slice none 0 0, .slice none 0 0] := by simpa using Blk.new (w.alloc _) 114 _
  have hBB : Below w.heap.size w ((w.alloc (.cells #[.int .i64 f, .slice A l.length c, .slice A' hs.length c'] 29)).alloc (.cells #[.int .i64 0, .slice none 0 0, .slice none 0 0, .slice none 0 0] 114)) := Below.allocE (Below.allocE (Below.refl _ _) _) _
  generalize hW : World.alloc (World.alloc w _) _ = W at *
  clear hW
  have hc0 := hB1.c 0 _ rfl
  have hc1 := hB1.c 1 _ rfl
  have hc2 := hB1.c 2 _ rfl
  have hlt1 := hB1.lt
  have hlt2 := hB2.lt
  refine wp_region_noPanic ?_
  refine wp_region_held_drew (S := fun w' => Below w.heap.size w w' ∧ w'.cell? ⟨w.heap.size, 0, none⟩ = some (.int .i64 f) ∧ w'.cell? ⟨w.heap.size, 1, none⟩ = some (.slice A l.length c) ∧ w'.cell? ⟨w.heap.size, 2, none⟩ = some (.slice A' hs.length c')) (by kernel_rfl) ?_ (fun hHeld => ?_)
  · (try dsimp only); ((repeat' apply And.intro) <;> first | go_keep  | (repeat (first | with_reducible exact Below.refl _ _ | with_reducible assumption | with_reducible exact And.left (by assumption) | with_reducible exact And.left (And.right (by assumption)) | with_reducible refine Below.setCell ?_ (by dsimp only; omega) _ | with_reducible refine Below.allocE ?_ _ | with_reducible refine Below.drew ?_ | exact Below.refl _ _ | assumption | exact And.left (by assumption) | exact And.left (And.right (by assumption)) | refine Below.drew ?_ | refine Below.allocE ?_ _ | refine Below.setCell ?_ (by dsimp only; omega) _)))
  refine wpAnyH_take (i := 0) (oi := { dst := some 7, op := Op.load 29 (Operand.tmp 1), type := 29, pos := _, after := #[], guard := none }) (v := ?_) rfl (by kernel_rfl) (by kernel_rfl) (by kernel_rfl) (fun _ _ _ h => h) (Or.inl ⟨by rfl, ?_⟩) (by assumption) ?_
  rotate_left 1
  · (intro w hSw; (try dsimp only at hSw); go_simp; (try with_reducible rfl))
  (try simp only [Act.put, List.setIfInBounds_toArray, List.set_cons_zero, List.set_cons_succ])
  refine wpAnyH_take (i := 2) (oi := { dst := some 9, op := Op.fieldAddr 29 (Operand.tmp 1) 1, type := 0, pos := _, after := #[], guard := none }) (v := ?_) rfl (by kernel_rfl) (by kernel_rfl) (by kernel_rfl) (fun _ _ _ h => h) (Or.inl ⟨by rfl, ?_⟩) (by assumption) ?_
  rotate_left 1
  · (intro w hSw; (try dsimp only at hSw); go_simp; (try with_reducible rfl))
  (try simp only [Act.put, List.setIfInBounds_toArray, List.set_cons_zero, List.set_cons_succ])
  refine wpAnyH_take (i := 3) (oi := { dst := some 10, op := Op.load 22 (Operand.tmp 9), type := 22, pos := _, after := #[{ on := 2, ground := Ground.data }], guard := none }) (v := ?_) rfl (by kernel_rfl) (by kernel_rfl) (by kernel_rfl) (fun _ _ _ h => h) (Or.inl ⟨by rfl, ?_⟩) (by assumption) ?_
  rotate_left 1
  · (intro w hSw; (try dsimp only at hSw); go_simp; (try with_reducible rfl))
  (try simp only [Act.put, List.setIfInBounds_toArray, List.set_cons_zero, List.set_cons_succ])
  refine wpAnyH_take (i := 4) (oi := { dst := some 11, op := Op.call { callee := Callee.builtin Builtin.len, args := #[Operand.tmp 10], argTypes := #[22] }, type := 3, pos := _, after := #[{ on := 3, ground := Ground.data }], guard := none }) (v := ?_) rfl (by kernel_rfl) (by kernel_rfl) (by kernel_rfl) (fun _ _ _ h => h) (Or.inl ⟨by rfl, ?_⟩) (by assumption) ?_
  rotate_left 1
  · (intro w hSw; (try dsimp only at hSw); go_simp; (try with_reducible rfl))
  (try simp only [Act.put, List.setIfInBounds_toArray, List.set_cons_zero, List.set_cons_succ])
  refine wpAnyH_stable [1, 5, 6, 7] [7] Kept (fun i => match i with | 1 => (fun v w' => ∃ g, v = .slice (some ⟨g, 0, none⟩) 1 1 ∧ Blk w' g 4 #[.bool true]) | 5 => (fun v w' => ∃ g, v = .slice (some ⟨g, 0, none⟩) l.length l.length ∧ Blk w' g 4 (List.replicate l.length (Value.bool true)).toArray ∧ W.heap.size ≤ g) | 6 => (fun v w' => ∃ g, v = .agg #[.int .i64 f, .slice A l.length c, .slice A' hs.length c', .slice (some ⟨g, 0, none⟩) l.length l.length] ∧ Blk w' g 4 (List.replicate l.length (Value.bool true)).toArray ∧ W.heap.size ≤ g) | 7 => (fun v w' => ∃ g, v = .pointer (some ⟨g, 0, none⟩) ∧ Blk w' g 114 #[.int .i64 0, .slice none 0 0, .slice none 0 0, .slice none 0 0] ∧ W.heap.size ≤ g) | _ => fun _ _ => True) (fun a vs => ((((a.put (some 8) (vs 1)).put (some 12) (vs 5)).put (some 13) (vs 6)).put (some 3) (vs 7))) (Kept.refl _) Kept.size Kept.trans (by kernel_rfl) (fun _ _ _ _ _ h => h) (fun _ => rfl) ?_ ?_ ?_ (fuel := 1) rfl ?_
  · refine List.forall_mem_cons.2 ⟨?_, List.forall_mem_cons.2 ⟨?_, List.forall_mem_cons.2 ⟨?_, List.forall_mem_cons.2 ⟨?_, fun _ h => by cases h⟩⟩⟩⟩ <;> (intro v; (try dsimp only); first | exact fun _ _ h _ => h | (refine fun w w' h k => Lasting.of ?_ h k; repeat (first | exact Lasting.always _ | exact Lasting.blk _ _ _ | exact Lasting.lt _ | exact Lasting.rd _ _ _ _ | exact Lasting.rdB _ _ _ _ _ | exact Lasting.below _ _ | (refine Lasting.ex fun _ => ?_) | (refine Lasting.both ?_ ?_))))
  · (intro w' hR; (try dsimp only at hHeld ⊢); have hR' : Below _ _ _ := hR; (try dsimp only); ((repeat' apply And.intro) <;> first | go_keep | exact cell_ext (by go_keep) hR' | (refine Below.ext ?_ hR'; first | assumption | exact And.left (by assumption) | exact And.left (And.right (by assumption)) | (repeat (first | with_reducible exact Below.refl _ _ | with_reducible assumption | with_reducible exact And.left (by assumption) | with_reducible exact And.left (And.right (by assumption)) | with_reducible refine Below.setCell ?_ (by dsimp only; omega) _ | with_reducible refine Below.allocE ?_ _ | with_reducible refine Below.drew ?_ | exact Below.refl _ _ | assumption | exact And.left (by assumption) | exact And.left (And.right (by assumption)) | refine Below.drew ?_ | refine Below.allocE ?_ _ | refine Below.setCell ?_ (by dsimp only; omega) _))) | (repeat (first | with_reducible exact Below.refl _ _ | with_reducible assumption | with_reducible exact And.left (by assumption) | with_reducible exact And.left (And.right (by assumption)) | with_reducible refine Below.setCell ?_ (by dsimp only; omega) _ | with_reducible refine Below.allocE ?_ _ | with_reducible refine Below.drew ?_ | exact Below.refl _ _ | assumption | exact And.left (by assumption) | exact And.left (And.right (by assumption)) | refine Below.drew ?_ | refine Below.allocE ?_ _ | refine Below.setCell ?_ (by dsimp only; omega) _))))
  · clear hHeld
    refine List.forall_mem_cons.2 ⟨?_, List.forall_mem_cons.2 ⟨?_, List.forall_mem_cons.2 ⟨?_, List.forall_mem_cons.2 ⟨?_, fun _ h => by cases h⟩⟩⟩⟩
    · intro vs wk hR hHeld hF K hK
      have hR' : Below _ _ _ := hR
      clear hF
      refine step_in (o := { dst := some 8, op := Op.buildSlice 112 1 #[(0, Operand.const (Value.bool true))], type := 112, pos := _, after := #[], guard := none }) rfl ?_ hK
      clear hK K; intro K hK
      (try dsimp only at hK hHeld ⊢)
      generalize vs 1 = v1 at *
      generalize vs 5 = v5 at *
      generalize vs 6 = v6 at *
      generalize vs 7 = v7 at *
      (try simp only [Act.put, List.setIfInBounds_toArray, List.set_cons_zero, List.set_cons_succ] at hK ⊢)
      go_simp
      refine hK.out _ _ (show Below _ _ _ from ?_) ?_ ?_
      · (repeat (first | with_reducible exact Below.refl _ _ | with_reducible assumption | with_reducible exact And.left (by assumption) | with_reducible exact And.left (And.right (by assumption)) | with_reducible refine Below.setCell ?_ (by dsimp only; omega) _ | with_reducible refine Below.allocE ?_ _ | with_reducible refine Below.drew ?_ | exact Below.refl _ _ | assumption | exact And.left (by assumption) | exact And.left (And.right (by assumption)) | refine Below.drew ?_ | refine Below.allocE ?_ _ | refine Below.setCell ?_ (by dsimp only; omega) _))
      · (try dsimp only); exact ⟨_, rfl, Blk.new _ _ _⟩
      · (intro hbb; exact absurd hbb (by decide))
    · intro vs wk hR hHeld hF K hK
      have hR' : Below _ _ _ := hR
      have h1 : (fun v w' => ∃ g, v = .slice (some ⟨g, 0, none⟩) 1 1 ∧ Blk w' g 4 #[.bool true]) (vs 1) wk := hF 1 (by simp) (by kernel_rfl)
      clear hF
      refine step_in (o := { dst := some 12, op := Op.call { callee := Callee.value (Operand.func 77), args := #[Operand.tmp 8, Operand.tmp 11], argTypes := #[112, 3] }, type := 112, pos := _, after := #[{ on := 1, ground := Ground.data }, { on := 4, ground := Ground.data }], guard := none }) rfl ?_ hK
      clear hK K; intro K hK
      (try dsimp only at hK hHeld ⊢)
      (try dsimp only at h1)
      generalize vs 1 = v1 at *
      generalize vs 5 = v5 at *
      generalize vs 6 = v6 at *
      generalize vs 7 = v7 at *
      (try simp only [Act.put, List.setIfInBounds_toArray, List.set_cons_zero, List.set_cons_succ] at hK ⊢)
      obtain ⟨g1, rfl, k1⟩ := h1
      (first | (first | (go_at_call 77; refine (Repeat_c _ _ true l.length _ ?_ (by omega)).mono ?_; exact k1.c 0 _ rfl; rintro e w' ⟨kg, rfl, hbk, hgk, hbe⟩)) | (go_simp; (first | (go_at_call 77; refine (Repeat_c _ _ true l.length _ ?_ (by omega)).mono ?_; exact k1.c 0 _ rfl; rintro e w' ⟨kg, rfl, hbk, hgk, hbe⟩))))
      refine hK.out _ _ (show Below _ _ _ from ?_) ?_ ?_
      · (repeat (first | with_reducible exact Below.refl _ _ | with_reducible assumption | with_reducible exact And.left (by assumption) | with_reducible exact And.left (And.right (by assumption)) | with_reducible refine Below.setCell ?_ (by dsimp only; omega) _ | with_reducible refine Below.allocE ?_ _ | with_reducible refine Below.drew ?_ | exact Below.refl _ _ | assumption | exact And.left (by assumption) | exact And.left (And.right (by assumption)) | refine Below.drew ?_ | refine Below.allocE ?_ _ | refine Below.setCell ?_ (by dsimp only; omega) _))
      · (try dsimp only); exact ⟨_, rfl, hbk, by have := hR'.size; simp only [World.drew] at this; omega⟩
      · (intro hbb; exact absurd hbb (by decide))
    · intro vs wk hR hHeld hF K hK
      have hR' : Below _ _ _ := hR
      have h5 : (fun v w' => ∃ g, v = .slice (some ⟨g, 0, none⟩) l.length l.length ∧ Blk w' g 4 (List.replicate l.length (Value.bool true)).toArray ∧ W.heap.size ≤ g) (vs 5) wk := hF 5 (by simp) (by kernel_rfl)
      clear hF
      refine step_in (o := { dst := some 13, op := Op.build 114 #[(0, Operand.tmp 7), (1, Operand.tmp 12)], type := 114, pos := _, after := #[{ on := 0, ground := Ground.data }, { on := 5, ground := Ground.data }], guard := none }) rfl ?_ hK
      clear hK K; intro K hK
      (try dsimp only at hK hHeld ⊢)
      (try dsimp only at h5)
      generalize vs 1 = v1 at *
      generalize vs 5 = v5 at *
      generalize vs 6 = v6 at *
      generalize vs 7 = v7 at *
      (try simp only [Act.put, List.setIfInBounds_toArray, List.set_cons_zero, List.set_cons_succ] at hK ⊢)
      obtain ⟨kg, rfl, kk, kl⟩ := h5
      go_simp
      refine hK.out _ _ (show Below _ _ _ from ?_) ?_ ?_
      · (repeat (first | with_reducible exact Below.refl _ _ | with_reducible assumption | with_reducible exact And.left (by assumption) | with_reducible exact And.left (And.right (by assumption)) | with_reducible refine Below.setCell ?_ (by dsimp only; omega) _ | with_reducible refine Below.allocE ?_ _ | with_reducible refine Below.drew ?_ | exact Below.refl _ _ | assumption | exact And.left (by assumption) | exact And.left (And.right (by assumption)) | refine Below.drew ?_ | refine Below.allocE ?_ _ | refine Below.setCell ?_ (by dsimp only; omega) _))
      · (try dsimp only); exact ⟨_, rfl, kk, kl⟩
      · (intro hbb; exact absurd hbb (by decide))
    · intro vs wk hR hHeld hF K hK
      have hR' : Below _ _ _ := hR
      clear hF
      refine step_in (o := { dst := some 3, op := Op.alloc 114, type := 0, pos := _, after := #[], guard := none }) rfl ?_ hK
      clear hK K; intro K hK
      (try dsimp only at hK hHeld ⊢)
      generalize vs 1 = v1 at *
      generalize vs 5 = v5 at *
      generalize vs 6 = v6 at *
      generalize vs 7 = v7 at *
      (try simp only [Act.put, List.setIfInBounds_toArray, List.set_cons_zero, List.set_cons_succ] at hK ⊢)
      go_simp
      refine hK.out _ _ (show Below _ _ _ from ?_) ?_ ?_
      · (repeat (first | with_reducible exact Below.refl _ _ | with_reducible assumption | with_reducible exact And.left (by assumption) | with_reducible exact And.left (And.right (by assumption)) | with_reducible refine Below.setCell ?_ (by dsimp only; omega) _ | with_reducible refine Below.allocE ?_ _ | with_reducible refine Below.drew ?_ | exact Below.refl _ _ | assumption | exact And.left (by assumption) | exact And.left (And.right (by assumption)) | refine Below.drew ?_ | refine Below.allocE ?_ _ | refine Below.setCell ?_ (by dsimp only; omega) _))
      · (try dsimp only); exact ⟨_, rfl, Blk.new _ _ _, by have := hR'.size; simp only [World.drew] at this; omega⟩
      · (intro _ bb hbb; simp [blockOf] at hbb; subst hbb; simp)
  clear hHeld
  intro vs wk hR hHeld hSun hF
  clear hSun
  have hR' : Below _ _ _ := hR
  have h1 : (fun v w' => ∃ g, v = .slice (some ⟨g, 0, none⟩) 1 1 ∧ Blk w' g 4 #[.bool true]) (vs 1) wk := hF 1 (by simp)
  have h5 : (fun v w' => ∃ g, v = .slice (some ⟨g, 0, none⟩) l.length l.length ∧ Blk w' g 4 (List.replicate l.length (Value.bool true)).toArray ∧ W.heap.size ≤ g) (vs 5) wk := hF 5 (by simp)
  have h6 : (fun v w' => ∃ g, v = .agg #[.int .i64 f, .slice A l.length c, .slice A' hs.length c', .slice (some ⟨g, 0, none⟩) l.length l.length] ∧ Blk w' g 4 (List.replicate l.length (Value.bool true)).toArray ∧ W.heap.size ≤ g) (vs 6) wk := hF 6 (by simp)
  have h7 : (fun v w' => ∃ g, v = .pointer (some ⟨g, 0, none⟩) ∧ Blk w' g 114 #[.int .i64 0, .slice none 0 0, .slice none 0 0, .slice none 0 0] ∧ W.heap.size ≤ g) (vs 7) wk := hF 7 (by simp)
  clear hF
  (try dsimp only at h1)
  (try dsimp only at h5)
  (try dsimp only at h6)
  (try dsimp only at h7)
  (try dsimp only at hHeld ⊢)
  generalize vs 1 = v1 at *
  generalize vs 5 = v5 at *
  generalize vs 6 = v6 at *
  generalize vs 7 = v7 at *
  (try simp only [Act.put, List.setIfInBounds_toArray, List.set_cons_zero, List.set_cons_succ])
  obtain ⟨g1, rfl, k1⟩ := h1
  obtain ⟨kg, rfl, kk, kl⟩ := h5
  obtain ⟨kg, rfl, kk, kl⟩ := h6
  obtain ⟨g7, rfl, k7, l7⟩ := h7
  refine wpAnyH_ready (rs := [8]) (by kernel_rfl) (by simp) ?_
  refine AllReadyH.cons (o := { dst := none, op := Op.store 114 (Operand.tmp 3) (Operand.tmp 13), type := 0, pos := _, after := #[{ on := 7, ground := Ground.data }, { on := 6, ground := Ground.data }, { on := 5, ground := Ground.chain }, { on := 0, ground := Ground.phase }, { on := 1, ground := Ground.phase }, { on := 2, ground := Ground.phase }, { on := 3, ground := Ground.phase }, { on := 4, ground := Ground.phase }, { on := 5, ground := Ground.phase }, { on := 6, ground := Ground.phase }, { on := 7, ground := Ground.phase }], guard := none }) rfl (fun K hK => ?_) AllReadyH.nil
  (first | (have q1 := k7.c 0 _ rfl; have q2 := k7.c 1 _ rfl; have q3 := k7.c 2 _ rfl; have q4 := k7.c 3 _ rfl; have q5 := k7.frozen; have n1 : w.heap.size ≠ g7 := (by omega); have n2 : w.heap.size + 1 ≠ g7 := (by omega); have n3 := n1.symm; have n4 := n2.symm; go_simp) | go_simp)
  refine hK.out _ _ ?_ (fun hNew => ?_)
  · (try dsimp only); ((repeat' apply And.intro) <;> first | go_keep  | (repeat (first | with_reducible exact Below.refl _ _ | with_reducible assumption | with_reducible exact And.left (by assumption) | with_reducible exact And.left (And.right (by assumption)) | with_reducible refine Below.setCell ?_ (by dsimp only; omega) _ | with_reducible refine Below.allocE ?_ _ | with_reducible refine Below.drew ?_ | exact Below.refl _ _ | assumption | exact And.left (by assumption) | exact And.left (And.right (by assumption)) | refine Below.drew ?_ | refine Below.allocE ?_ _ | refine Below.setCell ?_ (by dsimp only; omega) _)))
  clear hK K
  have hHeld := hNew
  clear hNew
  (try dsimp only at hHeld)
  (try simp only [Act.put, List.setIfInBounds_toArray, List.set_cons_zero, List.set_cons_succ])
  refine wpAnyH_done (by kernel_rfl) ?_ _
  refine NoPanic.normal ?_
  have hne : kg ≠ g7 := kk.ne_ k7 (by decide)
  have B7 : Blk ((((wk.setCell ⟨g7, 0, none⟩ (.int .i64 f)).setCell ⟨g7, 1, none⟩ (.slice A l.length c)).setCell ⟨g7, 2, none⟩ (.slice A' hs.length c')).setCell ⟨g7, 3, none⟩ (.slice (some ⟨kg, 0, none⟩) l.length l.length)) g7 114 #[.int .i64 f, .slice A l.length c, .slice A' hs.length c', .slice (some ⟨kg, 0, none⟩) l.length l.length] := by
    simpa using (((k7.set_ 0 (.int .i64 f)).set_ 1 (.slice A l.length c)).set_ 2 (.slice A' hs.length c')).set_ 3 (.slice (some ⟨kg, 0, none⟩) l.length l.length)
  have K7 : Blk ((((wk.setCell ⟨g7, 0, none⟩ (.int .i64 f)).setCell ⟨g7, 1, none⟩ (.slice A l.length c)).setCell ⟨g7, 2, none⟩ (.slice A' hs.length c')).setCell ⟨g7, 3, none⟩ (.slice (some ⟨kg, 0, none⟩) l.length l.length)) kg 4 (bools (knS l.length (hs.take 0))).toArray := by
    have := (((kk.far (p := ⟨g7, 0, none⟩) hne (.int .i64 f)).far (p := ⟨g7, 1, none⟩) hne (.slice A l.length c)).far (p := ⟨g7, 2, none⟩) hne (.slice A' hs.length c')).far (p := ⟨g7, 3, none⟩) hne (.slice (some ⟨kg, 0, none⟩) l.length l.length)
    simpa [knS_nil, bools] using this
  have T7 : Blk ((((wk.setCell ⟨g7, 0, none⟩ (.int .i64 f)).setCell ⟨g7, 1, none⟩ (.slice A l.length c)).setCell ⟨g7, 2, none⟩ (.slice A' hs.length c')).setCell ⟨g7, 3, none⟩ (.slice (some ⟨kg, 0, none⟩) l.length l.length)) w.heap.size 29 #[.int .i64 f, .slice A l.length c, .slice A' hs.length c'] :=
    ((((hB1.drew.ext hR').far n1 _).far n1 _).far n1 _).far n1 _
  have R7 : Blk ((((wk.setCell ⟨g7, 0, none⟩ (.int .i64 f)).setCell ⟨g7, 1, none⟩ (.slice A l.length c)).setCell ⟨g7, 2, none⟩ (.slice A' hs.length c')).setCell ⟨g7, 3, none⟩ (.slice (some ⟨kg, 0, none⟩) l.length l.length)) (w.heap.size + 1) 114 #[.int .i64 0, .slice none 0 0, .slice none 0 0, .slice none 0 0] :=
    ((((hB2.drew.ext hR').far n2 _).far n2 _).far n2 _).far n2 _
  have BB7 := hHeld.1
  clear hHeld q1 q2 q3 q4 q5 hc0 hc1 hc2 hB1 hB2 hBB hR hR' k1 kk k7
  generalize (((World.setCell wk _ _).setCell _ _).setCell _ _).setCell _ _ = W7 at *
  have n5 : kg ≠ w.heap.size := by omega
  have n6 : kg ≠ w.heap.size + 1 := by omega
  have n7 : w.heap.size ≤ kg := by omega
  have n8 : w.heap.size ≤ g7 := by omega
  have HOK := Lib.hid hok
  have HB7 := Lib.hid B7
  have HK7 := Lib.hid K7
  have HT7 := Lib.hid T7
  have HR7 := Lib.hid R7
  have a1 := T7.c 1 _ rfl
  have a2 := T7.c 2 _ rfl
  clear hok B7 K7 T7 R7 n1 n2 n3 n4
  go_wp2
  go_loopw [17] (fun i wr => ∃ k : Nat, k ≤ hs.length ∧ i = .int .i64 k ∧ Blk wr g7 114 #[.int .i64 f, .slice A l.length c, .slice A' hs.length c', .slice (some ⟨kg, 0, none⟩) l.length l.length] ∧ Blk wr kg 4 (bools (knS l.length (hs.take k))).toArray ∧ Blk wr (w.heap.size + 1) 114 #[.int .i64 0, .slice none 0 0, .slice none 0 0, .slice none 0 0] ∧ Below w.heap.size w wr) (fun i _ => hs.length - (intOf i).toNat)
  case atStart => exact ⟨0, Nat.zero_le _, rfl, HB7.out, HK7.out, HR7.out, BB7⟩
  case round =>
    obtain ⟨k, hk, rfl, bk, kk, rk, hBw⟩ := hrel
    have HBK := Lib.hid bk
    have HKK := Lib.hid kk
    have HRK := Lib.hid rk
    clear bk kk rk
    by_cases hlt : k < hs.length
    · obtain ⟨ad, rfl, hb, hcc1, hcc2⟩ := ((hv2.below hBw).more hBw.size).span_at hlt
      obtain ⟨p1, hp1⟩ : ∃ x, hs[k].1 = x := ⟨_, rfl⟩
      obtain ⟨p2, hp2⟩ : ∃ x, hs[k].2 = x := ⟨_, rfl⟩
      obtain ⟨o1, o2, o3⟩ := HOK.out _ (List.getElem_mem hlt)
      rw [hp1] at hcc1 o1 o2
      rw [hp2] at hcc2 o2 o3
      have HP1 := Lib.hid hp1
      have HP2 := Lib.hid hp2
      clear hp1 hp2
      obtain ⟨a, rfl⟩ := Int.eq_ofNat_of_zero_le o1
      obtain ⟨b, rfl⟩ : ∃ b : Nat, p2 = b := Int.eq_ofNat_of_zero_le (by omega)
      have hw1 : IntKind.i64.wrap ((b : Int) - (a : Int)) = ((b - a : Nat) : Int) := by rw [IntWalk.i64_in _ (by omega)]; omega
      go_wp2
      have S7 : Blk (wr.alloc (.cells #[.int .i64 a, .int .i64 b] 102)) wr.heap.size 102 #[.int .i64 a, .int .i64 b] := Blk.new _ _ _
      have L7 : Below w.heap.size w (wr.alloc (.cells #[.int .i64 a, .int .i64 b] 102)) := Below.allocE hBw _
      have B8 := HBK.out.alloc (.cells #[.int .i64 a, .int .i64 b] 102)
      have K8 := HKK.out.alloc (.cells #[.int .i64 a, .int .i64 b] 102)
      have R8 := HRK.out.alloc (.cells #[.int .i64 a, .int .i64 b] 102)
      have ne1 : kg ≠ wr.heap.size := K8.ne_ S7 (by decide)
      have ne3 := B8.lt
      have ne4 := K8.lt
      have hsz : wr.heap.size < (wr.alloc (.cells #[.int .i64 a, .int .i64 b] 102)).heap.size := S7.lt
      rw [← knS_empty l.length (hs.take k) a] at K8
      have HB8 := Lib.hid B8
      have HK8 := Lib.hid K8
      have HR8 := Lib.hid R8
      have HS7 := Lib.hid S7
      clear B8 K8 R8 S7 hcc1 hcc2
      obtain ⟨sg, hsg⟩ : ∃ sg, wr.heap.size = sg := ⟨_, rfl⟩
      have ne2 : kg ≠ sg := hsg ▸ ne1
      have HS8 : Hid (Blk (wr.alloc (.cells #[.int .i64 a, .int .i64 b] 102)) sg 102 #[.int .i64 a, .int .i64 b]) := hsg ▸ HS7
      rw [hsg]
      clear hsg ne1
      generalize wr.alloc _ = W8 at *
      obtain ⟨W2, rfl⟩ : ∃ W2 : World, W2 = wr := ⟨_, rfl⟩
      go_loopw [26] (fun i w2 => ∃ j : Nat, a + j ≤ b ∧ i = .int .i64 j ∧ Blk w2 sg 102 #[.int .i64 a, .int .i64 b] ∧ Blk w2 g7 114 #[.int .i64 f, .slice A l.length c, .slice (some ad) hs.length c', .slice (some ⟨kg, 0, none⟩) l.length l.length] ∧ Blk w2 kg 4 (bools (knS l.length (hs.take k ++ [((a : Int), (a : Int) + j)]))).toArray ∧ Blk w2 (w.heap.size + 1) 114 #[.int .i64 0, .slice none 0 0, .slice none 0 0, .slice none 0 0] ∧ Below w.heap.size w w2) (fun i _ => b - a - (intOf i).toNat)
      case atStart => exact ⟨0, by omega, rfl, HS8.out, HB8.out, by simpa using HK8.out, HR8.out, L7⟩
      case round =>
        obtain ⟨j, hj, rfl, s9, b9, k9, r9, hB9⟩ := hrel
        have HK9 := Lib.hid k9
        have HS9 := Lib.hid s9
        have HB9 := Lib.hid b9
        have HR9 := Lib.hid r9
        by_cases hlt2 : j < b - a
        · have hw2 : IntKind.i64.wrap ((a : Int) + (j : Int)) = ((a + j : Nat) : Int) := by rw [IntWalk.i64_in _ (by omega)]; omega
          have z1 := s9.c 0 _ rfl
          have z2 := b9.c 3 _ rfl
          have z3 : wr.cell? ⟨kg, a + j, none⟩ = some (.bool (knS l.length (hs.take k ++ [((a : Int), (a : Int) + j)]))[a + j]!) := by
            refine k9.c _ _ ?_
            have hq : a + j < (knS l.length (hs.take k ++ [((a : Int), (a : Int) + j)])).length := by rw [knS_len]; omega
            simp [bools, hq]
          have z4 := k9.frozen (a + j)
          have y1 : a + j < l.length := by omega
          have y2 : (0 : Int) ≤ (a + j : Nat) := by omega
          clear s9 b9 k9 r9
          go_wp2
          have k10 := HK9.out.set_ (a + j) (.bool false)
          rw [show (bools (knS l.length (hs.take k ++ [((a : Int), (a : Int) + j)]))).toArray.setIfInBounds (a + j) (.bool false) = (bools (knS l.length (hs.take k ++ [((a : Int), (a : Int) + j + 1)]))).toArray by
            rw [← knS_step l.length (hs.take k) a j (by omega)]; simp [bools, List.map_set]] at k10
          have HK10 := Lib.hid k10
          clear k10
          go_roundw
          case rel =>
            refine ⟨j + 1, by omega, by go_num, HS9.out.far (Ne.symm ne2) _, HB9.out.far (Ne.symm hne) _, by have := HK10.out; push_cast; rw [← Int.add_assoc]; exact this, HR9.out.far (Ne.symm n6) _, Below.setCell hB9 (by dsimp only; omega) _⟩
          case measure => simp [intOf]; omega
        · obtain rfl : j = b - a := by omega
          clear s9 b9 k9 r9
          go_wp2
          go_roundw
          case rel =>
            refine ⟨k + 1, by omega, by go_num, HB9.out, ?_, HR9.out, hB9⟩
            have := HK9.out
            rw [List.take_succ_eq_append_getElem hlt, show hs[k] = ((a : Int), (a : Int) + (b - a : Nat)) from ?_]
            · exact this
            · have e1 := HP1.out; have e2 := HP2.out
              refine Prod.ext e1 ?_
              rw [e2]; simp only; omega
          case measure => simp [intOf]; omega
    · obtain rfl : k = hs.length := by omega
      have y1 := HBK.out.c 0 _ rfl
      have y2 := HBK.out.c 1 _ rfl
      have y3 := HBK.out.c 2 _ rfl
      have y4 := HBK.out.c 3 _ rfl
      have x1 := HRK.out.c 0 _ rfl
      have x2 := HRK.out.c 1 _ rfl
      have x3 := HRK.out.c 2 _ rfl
      have x4 := HRK.out.c 3 _ rfl
      have x5 := HRK.out.frozen
      go_wp2
      refine bodyPost_ret (v := .agg #[.int .i64 f, .slice A l.length c, .slice A' hs.length c', .slice (some ⟨kg, 0, none⟩) l.length l.length]) ?_ rfl ?_
      · refine results_cell_row rfl _ _ (w.heap.size + 1) 114 #[.int .i64 f, .slice A l.length c, .slice A' hs.length c', .slice (some ⟨kg, 0, none⟩) l.length l.length] (0, 0) _ (by rfl) ?_ Tryz.underlying114 rfl (by kernel_rfl)
        exact (by simpa using (((HRK.out.set_ 0 (.int .i64 f)).set_ 1 (.slice A l.length c)).set_ 2 (.slice A' hs.length c')).set_ 3 (.slice (some ⟨kg, 0, none⟩) l.length l.length) : Blk _ _ _ _)
      refine ⟨kg, rfl, ?_, ?_, n7⟩
      · have := HKK.out
        rw [List.take_length] at this
        exact (((this.far n6 _).far n6 _).far n6 _).far n6 _
      · (repeat (first | with_reducible exact Below.refl _ _ | with_reducible assumption | with_reducible exact And.left (by assumption) | with_reducible exact And.left (And.right (by assumption)) | with_reducible refine Below.setCell ?_ (by dsimp only; omega) _ | with_reducible refine Below.allocE ?_ _ | with_reducible refine Below.drew ?_ | exact Below.refl _ _ | assumption | exact And.left (by assumption) | exact And.left (And.right (by assumption)) | refine Below.drew ?_ | refine Below.allocE ?_ _ | refine Below.setCell ?_ (by dsimp only; omega) _))
theorem read_c (vv hv : Value) (t : Tr) (w : World) (h : RdT w w.heap.size vv hv t) (hl : t.vals.length ≤ 4096) (hok : HolesOk t.vals.length t.holes) :
    Calls Tryz.prog 62 #[trv t.first vv hv] w (ReadPost w t.first vv hv t.vals.length t.holes) :=
  (read_own vv hv t w h hl hok).mono fun _ _ ⟨g, h1, h2, h3, _⟩ => ⟨g, h1, h2, h3⟩

end Go.Proofs.YtbpffadffbgloaaGreatDoor
