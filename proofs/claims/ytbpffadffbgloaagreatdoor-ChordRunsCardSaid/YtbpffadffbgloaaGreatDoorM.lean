/- Contracts: alike, turn, Turned, next. -/
import Derived.Test.YtbpffadffbgloaaGreatDoorKd
set_option linter.unusedVariables false
set_option linter.unusedSimpArgs false
namespace Go.Proofs.YtbpffadffbgloaaGreatDoor
open Go.RowKit Go.Shelf

def alikeS (s t : Tr) : Bool := decide (s.first = t.first) && decide (s.vals.length = t.vals.length)
set_option maxRecDepth 20000 in
set_option maxHeartbeats 1000000 in
theorem alike_c (vv hv vv' hv' : Value) (s t : Tr) (w : World) (h : RdT w w.heap.size vv hv s) (h' : RdT w w.heap.size vv' hv' t) :
    Calls Tryz.prog 81 #[trv s.first vv hv, trv t.first vv' hv'] w fun r w' => r = .returned (.bool (alikeS s t)) ∧ Below w.heap.size w w' := by
  obtain ⟨A, c, rfl, h1, h2⟩ := h.1.slice
  obtain ⟨A', c', rfl, h1', h2'⟩ := h.2.slice
  obtain ⟨B, d, rfl, j1, j2⟩ := h'.1.slice
  obtain ⟨B', d', rfl, j1', j2'⟩ := h'.2.slice
  unfold trv
  by_cases he : s.first = t.first
  all_goals
    go_enter Tryz.func81, Tryz.ntmps81
    go_wp2
    go_ret
    refine ⟨ret_bool ?_, by (repeat (first | with_reducible exact Below.refl _ _ | with_reducible assumption | with_reducible exact And.left (by assumption) | with_reducible exact And.left (And.right (by assumption)) | with_reducible refine Below.setCell ?_ (by dsimp only; omega) _ | with_reducible refine Below.allocE ?_ _ | with_reducible refine Below.drew ?_ | exact Below.refl _ _ | assumption | exact And.left (by assumption) | exact And.left (And.right (by assumption)) | refine Below.drew ?_ | refine Below.allocE ?_ _ | refine Below.setCell ?_ (by dsimp only; omega) _))⟩
    unfold alikeS
    by_cases hl : s.vals.length = t.vals.length
    · simp [he, hl]
    · have : ¬ ((s.vals.length : Int) = (t.vals.length : Int)) := by omega
      simp [he, hl, this]

set_option maxRecDepth 20000 in
set_option maxHeartbeats 1000000 in
theorem turn_c (b a : Int) (w : World) :
    Calls Tryz.prog 90 #[.agg #[.int .i64 b, .int .i64 a]] w fun r w' => r = .returned (.agg #[.int .i64 a, .int .i64 b]) ∧ Below w.heap.size w w' := by
  go_enter Tryz.func90, Tryz.ntmps90
  go_wp2
  obtain ⟨k1, k2, hB⟩ := alloc2 w #[.int .i64 b, .int .i64 a] #[.int .i64 a, .int .i64 b] 56 56
  have p0 := k2.c 0 _ rfl
  have p1 := k2.c 1 _ rfl
  refine bodyPost_ret (v := .agg #[.int .i64 a, .int .i64 b]) (by simp [results, Tryz.results90, go_sem, p0, p1]) rfl ?_
  exact ⟨rfl, hB⟩

def nextS (b a here back reading : Int) : Int × Int :=
  let n := (b + a) * here - a * back - reading
  if Int.tmod n b ≠ 0 then (0, 1) else (Int.tdiv n b, whenS (readingS (Int.tdiv n b) != 0) 4)
set_option maxRecDepth 20000 in
set_option maxHeartbeats 1000000 in
theorem next_c (b a here back reading : Int) (w : World) (b0 : 1 ≤ b) (b1 : b ≤ 32) (a0 : 1 ≤ a) (a1 : a ≤ 32)
    (x0 : -1073741824 ≤ here ∧ here ≤ 1073741824) (x1 : -1073741824 ≤ back ∧ back ≤ 1073741824) (x2 : -1073741824 ≤ reading ∧ reading ≤ 1073741824) :
    Calls Tryz.prog 79 #[.agg #[.int .i64 b, .int .i64 a], .int .i64 here, .int .i64 back, .int .i64 reading] w fun r w' =>
      r = .returned (.tuple #[.int .i64 (nextS b a here back reading).1, .int .i64 (nextS b a here back reading).2]) ∧ Below w.heap.size w w' := by
  have m1 := mul_bound (a := b + a) (b := here) (by omega) x0
  have m2 := mul_bound (a := a) (b := back) (by omega) x1
  have g1 : IntKind.i64.wrap (b + a) = b + a := IntWalk.i64_in _ (by omega)
  obtain ⟨p, hp⟩ : ∃ p, (b + a) * here = p := ⟨_, rfl⟩
  obtain ⟨q, hq⟩ : ∃ q, a * back = q := ⟨_, rfl⟩
  rw [hp] at m1
  rw [hq] at m2
  have g2 : IntKind.i64.wrap ((b + a) * here) = p := by rw [hp]; exact IntWalk.i64_in _ (by omega)
  have g3 : IntKind.i64.wrap (a * back) = q := by rw [hq]; exact IntWalk.i64_in _ (by omega)
  have g4 : IntKind.i64.wrap (p - q) = p - q := IntWalk.i64_in _ (by omega)
  have g5 : IntKind.i64.wrap (p - q - reading) = p - q - reading := IntWalk.i64_in _ (by omega)
  have hb0 : ¬ b = 0 := by omega
  have hb2 : ¬ b = -1 := by omega
  have HP := Lib.hid hp
  have HQ := Lib.hid hq
  clear hp hq
  by_cases hm : Int.tmod (p - q - reading) b = 0
  · have hq1 : -1 * 322122547200000 ≤ Int.tdiv (p - q - reading) b ∧ Int.tdiv (p - q - reading) b ≤ 322122547200000 := by
      have h1 := Int.natAbs_tdiv_le_natAbs (p - q - reading) b
      omega
    obtain ⟨z, hz⟩ : ∃ z, Int.tdiv (p - q - reading) b = z := ⟨_, rfl⟩
    rw [hz] at hq1
    have g6 : IntKind.i64.wrap (Int.tdiv (p - q - reading) b) = z := by rw [hz]; exact IntWalk.i64_in _ (by omega)
    have HZ := Lib.hid hz
    clear hz
    go_enter Tryz.func79, Tryz.ntmps79
    go_wp2
    obtain ⟨k1, hB⟩ := alloc1 w #[.int .i64 b, .int .i64 a] 56
    have c0 := k1.c 0 _ rfl
    generalize World.alloc w _ = W at *
    refine wp_region_noPanic ?_
    refine wp_region_held_drew (S := fun w' => Below w.heap.size w w' ∧ w'.cell? ⟨w.heap.size, 0, none⟩ = some (.int .i64 b)) (by kernel_rfl) ?_ (fun hHeld => ?_)
    · first | exact rfl | ((try dsimp only); ((repeat' apply And.intro) <;> first | go_keep  | (repeat (first | with_reducible exact Below.refl _ _ | with_reducible assumption | with_reducible exact And.left (by assumption) | with_reducible exact And.left (And.right (by assumption)) | with_reducible refine Below.setCell ?_ (by dsimp only; omega) _ | with_reducible refine Below.allocE ?_ _ | with_reducible refine Below.drew ?_ | exact Below.refl _ _ | assumption | exact And.left (by assumption) | exact And.left (And.right (by assumption)) | refine Below.drew ?_ | refine Below.allocE ?_ _ | refine Below.setCell ?_ (by dsimp only; omega) _))))
    refine wpAnyH_take (i := 0) (oi := { dst := some 30, op := Op.move (Operand.tmp 10), type := 3, pos := _, after := #[], guard := none }) (v := ?_) rfl (by kernel_rfl) (by kernel_rfl) (by kernel_rfl) (fun _ _ _ h => h) (Or.inl ⟨by rfl, ?_⟩) (by assumption) ?_
    rotate_left 1
    · (intro w hSw; (try dsimp only at hSw); go_simp; (try with_reducible rfl))
    (try simp only [Act.put, List.setIfInBounds_toArray, List.set_cons_zero, List.set_cons_succ])
    refine wpAnyH_take (i := 1) (oi := { dst := some 31, op := Op.fieldAddr 56 (Operand.tmp 4) 0, type := 0, pos := _, after := #[], guard := none }) (v := ?_) rfl (by kernel_rfl) (by kernel_rfl) (by kernel_rfl) (fun _ _ _ h => h) (Or.inl ⟨by rfl, ?_⟩) (by assumption) ?_
    rotate_left 1
    · (intro w hSw; (try dsimp only at hSw); go_simp; (try with_reducible rfl))
    (try simp only [Act.put, List.setIfInBounds_toArray, List.set_cons_zero, List.set_cons_succ])
    refine wpAnyH_take (i := 2) (oi := { dst := some 32, op := Op.load 3 (Operand.tmp 31), type := 3, pos := _, after := #[{ on := 1, ground := Ground.data }], guard := none }) (v := ?_) rfl (by kernel_rfl) (by kernel_rfl) (by kernel_rfl) (fun _ _ _ h => h) (Or.inl ⟨by rfl, ?_⟩) (by assumption) ?_
    rotate_left 1
    · (intro w hSw; (try dsimp only at hSw); go_simp; (try with_reducible rfl))
    (try simp only [Act.put, List.setIfInBounds_toArray, List.set_cons_zero, List.set_cons_succ])
    refine wpAnyH_take (i := 3) (oi := { dst := some 33, op := Op.binOp BinOp.quo 3 (Operand.tmp 30) (Operand.tmp 32) 3, type := 3, pos := _, after := #[{ on := 0, ground := Ground.data }, { on := 2, ground := Ground.data }], guard := none }) (v := ?_) rfl (by kernel_rfl) (by kernel_rfl) (by kernel_rfl) (fun _ _ _ h => h) (Or.inl ⟨by rfl, ?_⟩) (by assumption) ?_
    rotate_left 1
    · (intro w hSw; (try dsimp only at hSw); go_simp; (try with_reducible rfl))
    (try simp only [Act.put, List.setIfInBounds_toArray, List.set_cons_zero, List.set_cons_succ])
    refine wpAnyH_take (i := 4) (oi := { dst := some 34, op := Op.move (Operand.tmp 10), type := 3, pos := _, after := #[], guard := none }) (v := ?_) rfl (by kernel_rfl) (by kernel_rfl) (by kernel_rfl) (fun _ _ _ h => h) (Or.inl ⟨by rfl, ?_⟩) (by assumption) ?_
    rotate_left 1
    · (intro w hSw; (try dsimp only at hSw); go_simp; (try with_reducible rfl))
    (try simp only [Act.put, List.setIfInBounds_toArray, List.set_cons_zero, List.set_cons_succ])
    refine wpAnyH_take (i := 5) (oi := { dst := some 35, op := Op.fieldAddr 56 (Operand.tmp 4) 0, type := 0, pos := _, after := #[], guard := none }) (v := ?_) rfl (by kernel_rfl) (by kernel_rfl) (by kernel_rfl) (fun _ _ _ h => h) (Or.inl ⟨by rfl, ?_⟩) (by assumption) ?_
    rotate_left 1
    · (intro w hSw; (try dsimp only at hSw); go_simp; (try with_reducible rfl))
    (try simp only [Act.put, List.setIfInBounds_toArray, List.set_cons_zero, List.set_cons_succ])
    refine wpAnyH_take (i := 6) (oi := { dst := some 36, op := Op.load 3 (Operand.tmp 35), type := 3, pos := _, after := #[{ on := 5, ground := Ground.data }], guard := none }) (v := ?_) rfl (by kernel_rfl) (by kernel_rfl) (by kernel_rfl) (fun _ _ _ h => h) (Or.inl ⟨by rfl, ?_⟩) (by assumption) ?_
    rotate_left 1
    · (intro w hSw; (try dsimp only at hSw); go_simp; (try with_reducible rfl))
    (try simp only [Act.put, List.setIfInBounds_toArray, List.set_cons_zero, List.set_cons_succ])
    refine wpAnyH_take (i := 7) (oi := { dst := some 37, op := Op.binOp BinOp.quo 3 (Operand.tmp 34) (Operand.tmp 36) 3, type := 3, pos := _, after := #[{ on := 4, ground := Ground.data }, { on := 6, ground := Ground.data }], guard := none }) (v := ?_) rfl (by kernel_rfl) (by kernel_rfl) (by kernel_rfl) (fun _ _ _ h => h) (Or.inl ⟨by rfl, ?_⟩) (by assumption) ?_
    rotate_left 1
    · (intro w hSw; (try dsimp only at hSw); go_simp; (try with_reducible rfl))
    (try simp only [Act.put, List.setIfInBounds_toArray, List.set_cons_zero, List.set_cons_succ])
    refine wpAnyH_ready (rs := [8]) (by kernel_rfl) (by simp) ?_
    refine AllReadyH.cons (o := { dst := some 38, op := Op.call { callee := Callee.value (Operand.func 76), args := #[Operand.tmp 37], argTypes := #[3] }, type := 30, pos := _, after := #[{ on := 7, ground := Ground.data }], guard := none }) rfl (fun K hK => ?_) AllReadyH.nil
    (first | (first | (go_at_call 76; refine (checkReading_c _ _).mono ?_; rintro e w' ⟨rfl, rfl⟩) | (go_at_call 60; refine (when_c _ _ _).mono ?_; rintro e w' ⟨rfl, rfl⟩)) | (go_simp; (first | (go_at_call 76; refine (checkReading_c _ _).mono ?_; rintro e w' ⟨rfl, rfl⟩) | (go_at_call 60; refine (when_c _ _ _).mono ?_; rintro e w' ⟨rfl, rfl⟩))))
    refine hK.out _ _ ?_ (fun hNew => ?_)
    · (try dsimp only); ((repeat' apply And.intro) <;> first | go_keep  | (repeat (first | with_reducible exact Below.refl _ _ | with_reducible assumption | with_reducible exact And.left (by assumption) | with_reducible exact And.left (And.right (by assumption)) | with_reducible refine Below.setCell ?_ (by dsimp only; omega) _ | with_reducible refine Below.allocE ?_ _ | with_reducible refine Below.drew ?_ | exact Below.refl _ _ | assumption | exact And.left (by assumption) | exact And.left (And.right (by assumption)) | refine Below.drew ?_ | refine Below.allocE ?_ _ | refine Below.setCell ?_ (by dsimp only; omega) _)))
    clear hK K
    have hHeld := hNew
    clear hNew
    (try dsimp only at hHeld)
    (try simp only [Act.put, List.setIfInBounds_toArray, List.set_cons_zero, List.set_cons_succ])
    refine wpAnyH_take (i := 9) (oi := { dst := some 39, op := Op.binOp BinOp.neq 30 (Operand.tmp 38) (Operand.const (Value.int IntKind.i64 0)) 30, type := 4, pos := _, after := #[{ on := 8, ground := Ground.data }], guard := none }) (v := ?_) rfl (by kernel_rfl) (by kernel_rfl) (by kernel_rfl) (fun _ _ _ h => h) (Or.inl ⟨by rfl, ?_⟩) (by assumption) ?_
    rotate_left 1
    · (intro w hSw; (try dsimp only at hSw); go_simp; (try with_reducible rfl))
    (try simp only [Act.put, List.setIfInBounds_toArray, List.set_cons_zero, List.set_cons_succ])
    refine wpAnyH_ready (rs := [10]) (by kernel_rfl) (by simp) ?_
    refine AllReadyH.cons (o := { dst := some 40, op := Op.call { callee := Callee.value (Operand.func 60), args := #[Operand.tmp 39, Operand.const (Value.int IntKind.i64 4)], argTypes := #[4, 30] }, type := 30, pos := _, after := #[{ on := 9, ground := Ground.data }, { on := 8, ground := Ground.chain }], guard := none }) rfl (fun K hK => ?_) AllReadyH.nil
    (first | (first | (go_at_call 76; refine (checkReading_c _ _).mono ?_; rintro e w' ⟨rfl, rfl⟩) | (go_at_call 60; refine (when_c _ _ _).mono ?_; rintro e w' ⟨rfl, rfl⟩)) | (go_simp; (first | (go_at_call 76; refine (checkReading_c _ _).mono ?_; rintro e w' ⟨rfl, rfl⟩) | (go_at_call 60; refine (when_c _ _ _).mono ?_; rintro e w' ⟨rfl, rfl⟩))))
    refine hK.out _ _ ?_ (fun hNew => ?_)
    · (try dsimp only); ((repeat' apply And.intro) <;> first | go_keep  | (repeat (first | with_reducible exact Below.refl _ _ | with_reducible assumption | with_reducible exact And.left (by assumption) | with_reducible exact And.left (And.right (by assumption)) | with_reducible refine Below.setCell ?_ (by dsimp only; omega) _ | with_reducible refine Below.allocE ?_ _ | with_reducible refine Below.drew ?_ | exact Below.refl _ _ | assumption | exact And.left (by assumption) | exact And.left (And.right (by assumption)) | refine Below.drew ?_ | refine Below.allocE ?_ _ | refine Below.setCell ?_ (by dsimp only; omega) _)))
    clear hK K
    have hHeld := hNew
    clear hNew
    (try dsimp only at hHeld)
    (try simp only [Act.put, List.setIfInBounds_toArray, List.set_cons_zero, List.set_cons_succ])
    refine wpAnyH_take (i := 11) (oi := { dst := some 8, op := Op.assign (Operand.tmp 33), type := 3, pos := _, after := #[{ on := 3, ground := Ground.data }, { on := 10, ground := Ground.chain }, { on := 0, ground := Ground.phase }, { on := 1, ground := Ground.phase }, { on := 2, ground := Ground.phase }, { on := 3, ground := Ground.phase }, { on := 4, ground := Ground.textOnly Departure.lateStores }, { on := 5, ground := Ground.textOnly Departure.lateStores }, { on := 6, ground := Ground.textOnly Departure.lateStores }, { on := 7, ground := Ground.textOnly Departure.lateStores }, { on := 8, ground := Ground.textOnly Departure.lateStoresUnsure }, { on := 9, ground := Ground.textOnly Departure.lateStores }, { on := 10, ground := Ground.textOnly Departure.lateStoresUnsure }], guard := none }) (v := ?_) rfl (by kernel_rfl) (by kernel_rfl) (by kernel_rfl) (fun _ _ _ h => h) (Or.inl ⟨by rfl, ?_⟩) (by assumption) ?_
    rotate_left 1
    · (intro w hSw; (try dsimp only at hSw); go_simp; (try with_reducible rfl))
    (try simp only [Act.put, List.setIfInBounds_toArray, List.set_cons_zero, List.set_cons_succ])
    refine wpAnyH_take (i := 12) (oi := { dst := some 9, op := Op.assign (Operand.tmp 40), type := 30, pos := _, after := #[{ on := 10, ground := Ground.data }, { on := 11, ground := Ground.chain }, { on := 0, ground := Ground.phase }, { on := 1, ground := Ground.phase }, { on := 2, ground := Ground.phase }, { on := 3, ground := Ground.phase }, { on := 4, ground := Ground.phase }, { on := 5, ground := Ground.phase }, { on := 6, ground := Ground.phase }, { on := 7, ground := Ground.phase }, { on := 8, ground := Ground.phase }, { on := 9, ground := Ground.phase }, { on := 10, ground := Ground.phase }, { on := 11, ground := Ground.phase }], guard := none }) (v := ?_) rfl (by kernel_rfl) (by kernel_rfl) (by kernel_rfl) (fun _ _ _ h => h) (Or.inl ⟨by rfl, ?_⟩) (by assumption) ?_
    rotate_left 1
    · (intro w hSw; (try dsimp only at hSw); go_simp; (try with_reducible rfl))
    (try simp only [Act.put, List.setIfInBounds_toArray, List.set_cons_zero, List.set_cons_succ])
    refine wpAnyH_done (by kernel_rfl) ?_ _
    refine NoPanic.normal ?_
    go_wp2
    go_ret2
    unfold nextS
    simp only [HP.out, HQ.out, ne_eq, hm, not_true_eq_false, if_false, HZ.out]
    exact ⟨rfl, by (repeat (first | with_reducible exact Below.refl _ _ | with_reducible assumption | with_reducible exact And.left (by assumption) | with_reducible exact And.left (And.right (by assumption)) | with_reducible refine Below.setCell ?_ (by dsimp only; omega) _ | with_reducible refine Below.allocE ?_ _ | with_reducible refine Below.drew ?_ | exact Below.refl _ _ | assumption | exact And.left (by assumption) | exact And.left (And.right (by assumption)) | refine Below.drew ?_ | refine Below.allocE ?_ _ | refine Below.setCell ?_ (by dsimp only; omega) _))⟩
  · go_enter Tryz.func79, Tryz.ntmps79
    go_wp2
    go_ret2
    unfold nextS
    simp only [HP.out, HQ.out, ne_eq, hm, not_false_eq_true, if_true]
    exact ⟨rfl, by (repeat (first | with_reducible exact Below.refl _ _ | with_reducible assumption | with_reducible exact And.left (by assumption) | with_reducible exact And.left (And.right (by assumption)) | with_reducible refine Below.setCell ?_ (by dsimp only; omega) _ | with_reducible refine Below.allocE ?_ _ | with_reducible refine Below.drew ?_ | exact Below.refl _ _ | assumption | exact And.left (by assumption) | exact And.left (And.right (by assumption)) | refine Below.drew ?_ | refine Below.allocE ?_ _ | refine Below.setCell ?_ (by dsimp only; omega) _))⟩


set_option maxRecDepth 20000 in
set_option maxHeartbeats 1000000 in
theorem Turned_c (b a : Int) (w : World) :
    Calls Tryz.prog 31 #[.agg #[.int .i64 b, .int .i64 a]] w fun r w' =>
      r = .returned (.tuple #[if chordS b a = 0 then .agg #[.int .i64 a, .int .i64 b] else .agg #[.int .i64 0, .int .i64 0], .int .i64 (chordS b a)]) ∧ Below w.heap.size w w' := by
  obtain ⟨W, hW⟩ : ∃ W, W = (w.alloc (.cells #[.int .i64 b, .int .i64 a] 56)).alloc (.cells #[.int .i64 0, .int .i64 0] 56) := ⟨_, rfl⟩
  obtain ⟨k1, k2, hB⟩ := alloc2 w #[.int .i64 b, .int .i64 a] #[.int .i64 0, .int .i64 0] 56 56
  rw [← hW] at k1 k2 hB
  go_enter Tryz.func31, Tryz.ntmps31
  go_wp2_with fail
  rw [← hW]
  clear hW
  refine (CheckChord_c b a _).mono ?_
  rintro e X ⟨rfl, hbf⟩
  have m1 := k1.ext hbf
  have m2 := k2.ext hbf
  have hA : Below w.heap.size w X := Below.ext hB hbf
  have c0 := m1.c 0 _ rfl
  have c1 := m1.c 1 _ rfl
  have q0 := m2.c 0 _ rfl
  have q1 := m2.c 1 _ rfl
  have q2 := m2.frozen
  by_cases he : chordS b a = 0
  · rw [he]
    go_wp2_with fail
    refine (turn_c b a _).mono ?_
    rintro e Y ⟨rfl, hby⟩
    have m3 := m2.ext hby
    have r0 := m3.c 0 _ rfl
    have r1 := m3.c 1 _ rfl
    have r2 := m3.frozen
    have hAY := Below.ext hA hby
    clear q0 q1 q2 c0 c1
    go_wp2
    have m4 : Blk ((Y.setCell ⟨w.heap.size + 1, 0, none⟩ (.int .i64 a)).setCell ⟨w.heap.size + 1, 1, none⟩ (.int .i64 b)) (w.heap.size + 1) 56 #[.int .i64 a, .int .i64 b] := by simpa using (m3.set_ 0 (.int .i64 a)).set_ 1 (.int .i64 b)
    have p0 := m4.c 0 _ rfl
    have p1 := m4.c 1 _ rfl
    clear r0 r1 r2
    refine bodyPost_ret (v := .tuple #[.agg #[.int .i64 a, .int .i64 b], .int .i64 0]) (by simp [results, Tryz.results31, go_sem, p0, p1]) rfl ?_
    exact ⟨rfl, by (repeat (first | with_reducible exact Below.refl _ _ | with_reducible assumption | with_reducible exact And.left (by assumption) | with_reducible exact And.left (And.right (by assumption)) | with_reducible refine Below.setCell ?_ (by dsimp only; omega) _ | with_reducible refine Below.allocE ?_ _ | with_reducible refine Below.drew ?_ | exact Below.refl _ _ | assumption | exact And.left (by assumption) | exact And.left (And.right (by assumption)) | refine Below.drew ?_ | refine Below.allocE ?_ _ | refine Below.setCell ?_ (by dsimp only; omega) _))⟩
  · go_wp2
    have m4 : Blk ((X.setCell ⟨w.heap.size + 1, 0, none⟩ (.int .i64 0)).setCell ⟨w.heap.size + 1, 1, none⟩ (.int .i64 0)) (w.heap.size + 1) 56 #[.int .i64 0, .int .i64 0] := by simpa using (m2.set_ 0 (.int .i64 0)).set_ 1 (.int .i64 0)
    have p0 := m4.c 0 _ rfl
    have p1 := m4.c 1 _ rfl
    clear q0 q1 q2
    refine bodyPost_ret (v := .tuple #[.agg #[.int .i64 0, .int .i64 0], .int .i64 (chordS b a)]) (by simp [results, Tryz.results31, go_sem, p0, p1]) rfl ?_
    exact ⟨by simp [he], by (repeat (first | with_reducible exact Below.refl _ _ | with_reducible assumption | with_reducible exact And.left (by assumption) | with_reducible exact And.left (And.right (by assumption)) | with_reducible refine Below.setCell ?_ (by dsimp only; omega) _ | with_reducible refine Below.allocE ?_ _ | with_reducible refine Below.drew ?_ | exact Below.refl _ _ | assumption | exact And.left (by assumption) | exact And.left (And.right (by assumption)) | refine Below.drew ?_ | refine Below.allocE ?_ _ | refine Below.setCell ?_ (by dsimp only; omega) _))⟩

end Go.Proofs.YtbpffadffbgloaaGreatDoor
