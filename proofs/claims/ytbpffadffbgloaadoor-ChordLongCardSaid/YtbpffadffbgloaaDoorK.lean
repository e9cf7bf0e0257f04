/- Contracts: weights, Weights, lengthened, Weighted, Lengthened. -/
import Derived.Test.YtbpffadffbgloaaDoorJ
set_option linter.unusedVariables false
set_option linter.unusedSimpArgs false
namespace Go.Proofs.YtbpffadffbgloaaDoor
open Go.RowKit Go.Shelf

def weightS (b a k : Int) : Int := if k ≤ 0 then a * (b + k) else b * (a - k)
def weightsS (b a : Int) : List Int := (upto (1 - b) (b + a - 1).toNat).map (weightS b a)
theorem weightsS_len (b a : Int) : (weightsS b a).length = (b + a - 1).toNat := by simp [weightsS, upto_len]
theorem small_mul {x y : Int} (h1 : 0 ≤ x) (h2 : x ≤ 32) (h3 : 0 ≤ y) (h4 : y ≤ 64) : 0 ≤ x * y ∧ x * y ≤ 2048 := by
  refine ⟨Int.mul_nonneg h1 h3, ?_⟩
  have := Int.mul_le_mul h2 h4 h3 (by omega)
  omega

set_option maxRecDepth 20000 in
set_option maxHeartbeats 1000000 in
theorem weights_c (b a : Int) (w : World) (b0 : 1 ≤ b) (b1 : b ≤ 32) (a0 : 1 ≤ a) (a1 : a ≤ 32) :
    Calls Tryd.prog 75 #[.agg #[.int .i64 b, .int .i64 a]] w fun r w' => ∃ u, r = .returned u ∧
      w'.ownsRow w.heap.size 3 1 u (weightsS b a).length (ints (weightsS b a)) ∧ Below w.heap.size w w' := by
  obtain ⟨i0, hi, hz0, hz1, hz2⟩ := info_parts infoInt
  have e1 : IntKind.i64.wrap (1 - b) = 1 - b := IntWalk.i64_in _ (by omega)
  go_enter Tryd.func75, Tryd.ntmps75
  go_wp2
  obtain ⟨k1, hB⟩ := alloc1 w #[.int .i64 b, .int .i64 a] 34
  have hs0 : w.heap.size < (w.alloc (.cells #[.int .i64 b, .int .i64 a] 34)).heap.size := k1.lt
  generalize World.alloc w _ = W at *
  go_loopw [3, 4] (fun o i wr => ∃ j : Nat, (j : Int) ≤ b + a - 1 ∧ i = .int .i64 (1 - b + j) ∧ wr.ownsRow w.heap.size 3 1 o j (ints ((upto (1 - b) j).map (weightS b a))) ∧ Blk wr w.heap.size 34 #[.int .i64 b, .int .i64 a] ∧ Below w.heap.size w wr) (fun _ i _ => (a - intOf i).toNat)
  case atStart => exact ⟨0, by omega, by simp, World.ownsRow_nil _ _ _ _, k1, hB⟩
  case round =>
    obtain ⟨j, hj, rfl, hown, hk, hBw⟩ := hrel
    have c0 := hk.c 0 _ rfl
    have c1 := hk.c 1 _ rfl
    have hne := own_ne_blk hown hk (by decide)
    have HK := Lib.hid hk
    have hs1 := hBw.size
    clear hk
    obtain ⟨k, hkk⟩ : ∃ k : Int, 1 - b + j = k := ⟨_, rfl⟩
    rw [hkk]
    by_cases hlt : k < a
    · obtain ⟨x, hx⟩ : ∃ x, weightS b a k = x := ⟨_, rfl⟩
      have g2 : IntKind.i64.wrap (k + 1) = k + 1 := IntWalk.i64_in _ (by omega)
      have e2 : (upto (1 - b) (j + 1)).map (weightS b a) = (upto (1 - b) j).map (weightS b a) ++ [x] := by rw [upto_succ, List.map_append, hkk]; simp [hx]
      by_cases hk0 : k ≤ 0
      · have hx2 : x = a * (b + k) := by rw [← hx]; unfold weightS; rw [if_pos hk0]
        have hm := small_mul (x := a) (y := b + k) (by omega) (by omega) (by omega) (by omega)
        have g3 : IntKind.i64.wrap (b + k) = b + k := IntWalk.i64_in _ (by omega)
        have g4 : IntKind.i64.wrap (a * (b + k)) = x := by rw [hx2]; exact IntWalk.i64_in _ (by omega)
        have E2 := Lib.hid e2
        have HX := Lib.hid hx2
        clear e2 hx hx2
        go_wp2_with (at_builtin; refine wpList_append_own _ rfl _ _ 24 rfl w.heap.size 3 i0 (.int .i64 0) 1 8 Tryd.underlying24 hi hz0 hz1 hz2 rfl (by decide) _ _ _ rfl (hown.alloc _) ⟨wr.heap.size, 0, none⟩ 1 1 [.int .i64 x] rfl rfl (cell_one_new _ _ _) (by simp [Value.oneCell']) (by unfold maxLen; omega) (by omega) (by simp; omega) ?_; intro v' w1 hown' hgrow _)
        have hB1 : Below w.heap.size w w1 := (hBw.alloc hBw.size _).grown hgrow (by simp; omega) (fun g hg => own_base hown hg)
        have hk1 := (HK.out.alloc _).grown hgrow (by intro e; exact hne e.symm)
        go_roundw
        case rel => exact ⟨j + 1, by omega, by push_cast; rw [← hkk]; congr 1; omega, by rw [E2.out, ints_snoc]; exact hown', hk1, hB1⟩
        case measure => simp [intOf]; omega
      · have hx2 : x = b * (a - k) := by rw [← hx]; unfold weightS; rw [if_neg hk0]
        have hm := small_mul (x := b) (y := a - k) (by omega) (by omega) (by omega) (by omega)
        have g3 : IntKind.i64.wrap (a - k) = a - k := IntWalk.i64_in _ (by omega)
        have g4 : IntKind.i64.wrap (b * (a - k)) = x := by rw [hx2]; exact IntWalk.i64_in _ (by omega)
        have E2 := Lib.hid e2
        have HX := Lib.hid hx2
        clear e2 hx hx2
        go_wp2_with (at_builtin; refine wpList_append_own _ rfl _ _ 24 rfl w.heap.size 3 i0 (.int .i64 0) 1 8 Tryd.underlying24 hi hz0 hz1 hz2 rfl (by decide) _ _ _ rfl (hown.alloc _) ⟨wr.heap.size, 0, none⟩ 1 1 [.int .i64 x] rfl rfl (cell_one_new _ _ _) (by simp [Value.oneCell']) (by unfold maxLen; omega) (by omega) (by simp; omega) ?_; intro v' w1 hown' hgrow _)
        have hB1 : Below w.heap.size w w1 := (hBw.alloc hBw.size _).grown hgrow (by simp; omega) (fun g hg => own_base hown hg)
        have hk1 := (HK.out.alloc _).grown hgrow (by intro e; exact hne e.symm)
        go_roundw
        case rel => exact ⟨j + 1, by omega, by push_cast; rw [← hkk]; congr 1; omega, by rw [E2.out, ints_snoc]; exact hown', hk1, hB1⟩
        case measure => simp [intOf]; omega
    · go_wp2
      go_ret
      obtain rfl : j = (b + a - 1).toNat := by omega
      exact ⟨_, rfl, by rw [weightsS_len]; exact hown, hBw⟩

theorem own_mono {w : World} {base base' n sz : Nat} {e : TypeId} {v : Value} {xs : List Value} (h : w.ownsRow base e sz v n xs) (hb : base' ≤ base) : w.ownsRow base' e sz v n xs := by
  obtain ⟨h1, h2⟩ := h
  refine ⟨h1, ?_⟩
  rcases h2 with h2 | ⟨g, cap, cur, hv, hg, r⟩
  · exact .inl h2
  · exact .inr ⟨g, cap, cur, hv, by omega, r⟩

set_option maxRecDepth 20000 in
set_option maxHeartbeats 1000000 in
theorem Weights_c (b a : Int) (w : World) :
    Calls Tryd.prog 17 #[.agg #[.int .i64 b, .int .i64 a]] w fun r w' => ∃ u, r = .returned (.tuple #[u, .int .i64 (chordS b a)]) ∧
      w'.ownsRow w.heap.size 3 1 u (if chordS b a = 0 then weightsS b a else []).length (ints (if chordS b a = 0 then weightsS b a else [])) ∧ Below w.heap.size w w' := by
  go_enter Tryd.func17, Tryd.ntmps17
  go_wp2_with fail
  refine (CheckChord_c b a _).mono ?_
  rintro e w' ⟨rfl, hbe⟩
  have hB : Below w.heap.size w w' := Below.ext (Below.allocE (Below.refl _ _) _) hbe
  have c0 := cell_ext (X := w.alloc (.cells #[.int .i64 b, .int .i64 a] 34)) (p := ⟨w.heap.size, 0, none⟩) ((Blk.new _ _ _).c 0 _ rfl) hbe
  have c1 := cell_ext (X := w.alloc (.cells #[.int .i64 b, .int .i64 a] 34)) (p := ⟨w.heap.size, 1, none⟩) ((Blk.new _ _ _).c 1 _ rfl) hbe
  by_cases he : chordS b a = 0
  · have ok1 := chordS_ok he
    rw [he]
    go_wp2_with fail
    refine (weights_c b a _ ok1.1.1 ok1.1.2 ok1.2.1 ok1.2.2).mono ?_
    rintro e w2 ⟨u, rfl, hu, hb2⟩
    go_wp2
    go_ret2
    exact ⟨_, rfl, by simpa using own_mono hu hB.size, Below.ext hB hb2⟩
  · go_wp2
    go_ret2
    exact ⟨.slice none 0 0, rfl, (by first | exact World.ownsRow_nil _ _ _ _ | (rw [if_neg he]; exact World.ownsRow_nil _ _ _ _)), hB⟩


theorem infoTerm : (Tryd.prog.info? 127).map (fun i => (i.zero, i.size, i.bytes)) = some (some (.agg #[.int .i64 0, .int .i64 0]), 2, 16) := by kernel_rfl

def ltermsS (b a step : Int) : List (Int × Int) := (upto (1 - b) (b + a - 1).toNat).map fun k => (weightS b a k, k * step)
theorem weightsS_at (b a : Int) (j : Nat) (h : j < (weightsS b a).length) : (weightsS b a)[j] = weightS b a (1 - b + j) := by
  simp [weightsS, upto]
theorem weightS_bound {b a k : Int} (b0 : 1 ≤ b) (b1 : b ≤ 32) (a0 : 1 ≤ a) (a1 : a ≤ 32) (h0 : 1 - b ≤ k) (h1 : k < a) : 0 ≤ weightS b a k ∧ weightS b a k ≤ 2048 := by
  unfold weightS
  split
  · exact small_mul (by omega) (by omega) (by omega) (by omega)
  · exact small_mul (by omega) (by omega) (by omega) (by omega)
theorem step_mul {k s : Int} (h1 : -32 ≤ k) (h2 : k ≤ 32) (s0 : 1 ≤ s) (s1 : s ≤ 32) : -2048 ≤ k * s ∧ k * s ≤ 2048 := by
  rcases Int.le_total 0 k with h | h
  · have := small_mul (x := k) (y := s) h h2 (by omega) (by omega); omega
  · have := small_mul (x := -k) (y := s) (by omega) (by omega) (by omega) (by omega)
    rw [Int.neg_mul] at this; omega
theorem lterms_ok {b a s : Int} (b0 : 1 ≤ b) (b1 : b ≤ 32) (a0 : 1 ≤ a) (a1 : a ≤ 32) (s0 : 1 ≤ s) (s1 : s ≤ 32) : (ltermsS b a s).length ≤ 4096 ∧ ∀ x ∈ ltermsS b a s, (-100000 ≤ x.1 ∧ x.1 ≤ 100000) ∧ (-100000 ≤ x.2 ∧ x.2 ≤ 100000) := by
  refine ⟨by simp [ltermsS, upto_len]; omega, fun x hx => ?_⟩
  unfold ltermsS upto at hx
  simp only [List.mem_map, List.mem_range] at hx
  obtain ⟨k, ⟨j, hj, rfl⟩, rfl⟩ := hx
  have h1 := weightS_bound (k := 1 - b + (j : Int)) b0 b1 a0 a1 (by omega) (by omega)
  have h2 := step_mul (k := 1 - b + (j : Int)) (s := s) (by omega) (by omega) s0 s1
  simp only
  omega

def lengthenedS (b a step : Int) (t : Tr) : Tr × Int := foldedS t.first t.vals (knS t.vals.length t.holes) (ltermsS b a step) ((1 - b) * step) ((a - 1) * step)

set_option maxRecDepth 20000 in
set_option maxHeartbeats 1000000 in
theorem lengthened_c (b a step : Int) (vv hv : Value) (t : Tr) (w : World) (b0 : 1 ≤ b) (b1 : b ≤ 32) (a0 : 1 ≤ a) (a1 : a ≤ 32) (s0 : 1 ≤ step) (s1 : step ≤ 32)
    (h : RdT w w.heap.size vv hv t) (ok : TrOk t) :
    Calls Tryd.prog 80 #[.agg #[.int .i64 b, .int .i64 a], .int .i64 step, trv t.first vv hv] w (TrPost w (lengthenedS b a step t)) := by
  obtain ⟨A, c, rfl, h1, h2⟩ := h.1.slice
  obtain ⟨A', c', rfl, h1', h2'⟩ := h.2.slice
  obtain ⟨i0, hi, hz0, hz1, hz2⟩ := info_parts infoTerm
  unfold trv
  go_enter Tryd.func80, Tryd.ntmps80
  go_wp2_with fail
  obtain ⟨k1, k2, k3, hB⟩ := alloc3 w #[.int .i64 b, .int .i64 a] #[.int .i64 t.first, .slice A t.vals.length c, .slice A' t.holes.length c'] #[.int .i64 0, .slice none 0 0, .slice none 0 0] 34 30 30
  generalize World.alloc (World.alloc (World.alloc w _) _) _ = W at *
  have hlt := k3.lt
  have hs0 := hB.size
  refine (weights_c b a _ b0 b1 a0 a1).mono ?_
  rintro e w1 ⟨u, rfl, hu, hb1⟩
  obtain ⟨Au, cu, rfl, hu1, hu2⟩ := own_form hu
  rw [weightsS_len] at hu
  have hur := (Rd.of_own hu)
  obtain ⟨n, hn⟩ : ∃ n, (b + a - 1).toNat = n := ⟨_, rfl⟩
  have hlen : (weightsS b a).length = n := by rw [weightsS_len, hn]
  rw [hn] at hu hur
  rw [hlen] at hu1 ⊢
  have K1 := k1.ext hb1
  have K2 := k2.ext hb1
  have K3 := k3.ext hb1
  have hB1 : Below w.heap.size w w1 := Below.ext hB hb1
  have hs1 := hb1.size
  clear k1 k2 k3 hb1
  go_wp2
  go_loopw [8, 14] (fun o i wr => ∃ j : Nat, j ≤ n ∧ i = .int .i64 j ∧ wr.ownsRow w1.heap.size 127 2 o j (terms ((upto (1 - b) j).map fun k => (weightS b a k, k * step))) ∧ Below w1.heap.size w1 wr) (fun _ i _ => n - (intOf i).toNat)
  case atStart => exact ⟨0, by omega, rfl, World.ownsRow_nil _ _ _ _, Below.refl _ _⟩
  case round =>
    obtain ⟨j, hj, rfl, hown, hBw⟩ := hrel
    have hs2 := hBw.size
    by_cases hlt2 : j < n
    · obtain ⟨ad, rfl, hadb, hcell⟩ := (hur.below hBw).int_at (k := j) (by rw [hlen]; exact hlt2)
      rw [weightsS_at] at hcell
      obtain ⟨k, hk⟩ : ∃ k : Int, 1 - b + j = k := ⟨_, rfl⟩
      rw [hk] at hcell
      have hm := step_mul (k := k) (s := step) (by omega) (by omega) s0 s1
      obtain ⟨x, hx⟩ : ∃ x, weightS b a k = x := ⟨_, rfl⟩
      obtain ⟨y, hy⟩ : ∃ y, k * step = y := ⟨_, rfl⟩
      rw [hx] at hcell
      rw [hy] at hm
      have g1 : IntKind.i64.wrap ((j : Int) + 1) = (j : Int) + 1 := IntWalk.i64_in _ (by omega)
      have g2 : IntKind.i64.wrap ((j : Int) + 1 - b) = k := by rw [← hk, IntWalk.i64_in _ (by omega)]; omega
      have g3 : IntKind.i64.wrap (k * step) = y := by rw [hy]; exact IntWalk.i64_in _ (by omega)
      have hc := cell_ext (K1.c 0 _ rfl) hBw
      have e2 : terms ((upto (1 - b) (j + 1)).map fun k => (weightS b a k, k * step)) = terms ((upto (1 - b) j).map fun k => (weightS b a k, k * step)) ++ [.int .i64 x, .int .i64 y] := by
        rw [upto_succ, List.map_append, hk]; unfold terms; rw [spans_append]; simp [spans, hx, hy]
      have E2 := Lib.hid e2
      have HK := Lib.hid hk
      clear e2 hk hx hy
      go_wp2_with (at_builtin; refine wpList_append_own _ rfl _ _ 124 rfl w1.heap.size 127 i0 (.agg #[.int .i64 0, .int .i64 0]) 2 16 Tryd.underlying124 hi hz0 hz1 hz2 rfl (by decide) _ _ _ rfl (hown.alloc _) ⟨wr.heap.size, 0, none⟩ 1 1 [.int .i64 x, .int .i64 y] rfl rfl (World.news_of_block (cs := #[.int .i64 x, .int .i64 y]) (t := 127) (fr := (0, 0)) (by simpa using heap_alloc_new wr _)) (by simp [Value.oneCell']) (by unfold maxLen; omega) (by omega) (by simp; omega) ?_; intro v' w2 hown' hgrow _)
      have hB2 : Below w1.heap.size w1 w2 := (hBw.alloc hBw.size _).grown hgrow (by simp; omega) (fun g hg => own_base hown hg)
      go_roundw
      case rel => exact ⟨j + 1, by omega, by go_num, by rw [E2.out]; exact hown', hB2⟩
      case measure => simp [intOf]; omega
    · obtain rfl : j = n := by omega
      have hm1 := step_mul (k := 1 - b) (s := step) (by omega) (by omega) s0 s1
      have hm2 := step_mul (k := a - 1) (s := step) (by omega) (by omega) s0 s1
      have g1 : IntKind.i64.wrap (1 - b) = 1 - b := IntWalk.i64_in _ (by omega)
      have g2 : IntKind.i64.wrap (a - 1) = a - 1 := IntWalk.i64_in _ (by omega)
      have g3 : IntKind.i64.wrap ((1 - b) * step) = (1 - b) * step := IntWalk.i64_in _ (by omega)
      have g4 : IntKind.i64.wrap ((a - 1) * step) = (a - 1) * step := IntWalk.i64_in _ (by omega)
      have hlt' := lterms_ok (b := b) (a := a) (s := step) b0 b1 a0 a1 s0 s1
      have hll : (ltermsS b a step).length = j := by simp [ltermsS, upto_len, hn]
      obtain ⟨Ao, co, rfl, ho1, ho2⟩ := own_form hown
      have hro : Rd wr.drew wr.drew.heap.size 2 (.slice Ao j co) (ltermsS b a step).length (terms (ltermsS b a step)) := by
        rw [hll]; have := (Rd.of_own hown).drew; unfold ltermsS; rw [hn]; exact this
      have m1 := K1.ext hBw
      have m2 := K2.ext hBw
      have m3 := K3.ext hBw
      have hBX : Below w.heap.size w wr := Below.ext hB1 hBw
      have hsX := hBX.size
      have c0 := m1.c 0 _ rfl
      have c1 := m1.c 1 _ rfl
      have d0 := m2.c 0 _ rfl
      have d1 := m2.c 1 _ rfl
      have d2 := m2.c 2 _ rfl
      have hltX := m3.lt
      have hb3 : RdT wr.drew wr.drew.heap.size (.slice A t.vals.length c) (.slice A' t.holes.length c') t := (h.below hBX).more hBX.size
      have n1 : w.heap.size ≠ w.heap.size + 1 + 1 := by omega
      have n2 : w.heap.size + 1 ≠ w.heap.size + 1 + 1 := by omega
      have n3 := n1.symm
      have n4 := n2.symm
      obtain ⟨T, hT⟩ : ∃ T, lengthenedS b a step t = T := ⟨_, rfl⟩
      have hT2 : foldedS t.first t.vals (knS t.vals.length t.holes) (ltermsS b a step) ((1 - b) * step) ((a - 1) * step) = T := hT
      have HRO := Lib.hid hro
      clear hro hown hur hu
      go_wp2
      refine wp_region_noPanic ?_
      refine wp_region_held_drew (S := fun w' => Below w.heap.size w w' ∧ w'.cell? ⟨w.heap.size, 0, none⟩ = some (.int .i64 b) ∧ w'.cell? ⟨w.heap.size, 1, none⟩ = some (.int .i64 a) ∧ w'.cell? ⟨w.heap.size + 1, 0, none⟩ = some (.int .i64 t.first) ∧ w'.cell? ⟨w.heap.size + 1, 1, none⟩ = some (.slice A t.vals.length c) ∧ w'.cell? ⟨w.heap.size + 1, 2, none⟩ = some (.slice A' t.holes.length c')) (by kernel_rfl) ?_ (fun hHeld => ?_)
      · first | exact rfl | ((try dsimp only); ((repeat' apply And.intro) <;> first | go_keep | exact cell_ext (by go_keep) hbe | (refine Below.ext ?_ hbe; first | assumption | exact And.left (by assumption) | exact And.left (And.right (by assumption)) | (repeat (first | with_reducible exact Below.refl _ _ | with_reducible assumption | with_reducible exact And.left (by assumption) | with_reducible exact And.left (And.right (by assumption)) | with_reducible refine Below.setCell ?_ (by dsimp only; omega) _ | with_reducible refine Below.allocE ?_ _ | with_reducible refine Below.drew ?_ | exact Below.refl _ _ | assumption | exact And.left (by assumption) | exact And.left (And.right (by assumption)) | refine Below.drew ?_ | refine Below.allocE ?_ _ | refine Below.setCell ?_ (by dsimp only; omega) _))) | exact cell_ext (by go_keep) hbf | (refine Below.ext ?_ hbf; first | assumption | exact And.left (by assumption) | exact And.left (And.right (by assumption)) | (repeat (first | with_reducible exact Below.refl _ _ | with_reducible assumption | with_reducible exact And.left (by assumption) | with_reducible exact And.left (And.right (by assumption)) | with_reducible refine Below.setCell ?_ (by dsimp only; omega) _ | with_reducible refine Below.allocE ?_ _ | with_reducible refine Below.drew ?_ | exact Below.refl _ _ | assumption | exact And.left (by assumption) | exact And.left (And.right (by assumption)) | refine Below.drew ?_ | refine Below.allocE ?_ _ | refine Below.setCell ?_ (by dsimp only; omega) _))) | (repeat (first | with_reducible exact Below.refl _ _ | with_reducible assumption | with_reducible exact And.left (by assumption) | with_reducible exact And.left (And.right (by assumption)) | with_reducible refine Below.setCell ?_ (by dsimp only; omega) _ | with_reducible refine Below.allocE ?_ _ | with_reducible refine Below.drew ?_ | exact Below.refl _ _ | assumption | exact And.left (by assumption) | exact And.left (And.right (by assumption)) | refine Below.drew ?_ | refine Below.allocE ?_ _ | refine Below.setCell ?_ (by dsimp only; omega) _))))
      refine wpAnyH_take (i := 0) (oi := { dst := some 32, op := Op.load 30 (Operand.tmp 5), type := 30, pos := _, after := #[], guard := none }) (v := ?_) rfl (by kernel_rfl) (by kernel_rfl) (by kernel_rfl) (fun _ _ _ h => h) (Or.inl ⟨by rfl, ?_⟩) (by assumption) ?_
      rotate_left 1
      · (intro w hSw; (try dsimp only at hSw); go_simp; (try with_reducible rfl))
      (try simp only [Act.put, List.setIfInBounds_toArray, List.set_cons_zero, List.set_cons_succ])
      refine wpAnyH_take (i := 2) (oi := { dst := some 34, op := Op.move (Operand.tmp 8), type := 124, pos := _, after := #[], guard := none }) (v := ?_) rfl (by kernel_rfl) (by kernel_rfl) (by kernel_rfl) (fun _ _ _ h => h) (Or.inl ⟨by rfl, ?_⟩) (by assumption) ?_
      rotate_left 1
      · (intro w hSw; (try dsimp only at hSw); go_simp; (try with_reducible rfl))
      (try simp only [Act.put, List.setIfInBounds_toArray, List.set_cons_zero, List.set_cons_succ])
      refine wpAnyH_take (i := 3) (oi := { dst := some 35, op := Op.fieldAddr 34 (Operand.tmp 3) 0, type := 0, pos := _, after := #[], guard := none }) (v := ?_) rfl (by kernel_rfl) (by kernel_rfl) (by kernel_rfl) (fun _ _ _ h => h) (Or.inl ⟨by rfl, ?_⟩) (by assumption) ?_
      rotate_left 1
      · (intro w hSw; (try dsimp only at hSw); go_simp; (try with_reducible rfl))
      (try simp only [Act.put, List.setIfInBounds_toArray, List.set_cons_zero, List.set_cons_succ])
      refine wpAnyH_take (i := 4) (oi := { dst := some 36, op := Op.load 3 (Operand.tmp 35), type := 3, pos := _, after := #[{ on := 3, ground := Ground.data }], guard := none }) (v := ?_) rfl (by kernel_rfl) (by kernel_rfl) (by kernel_rfl) (fun _ _ _ h => h) (Or.inl ⟨by rfl, ?_⟩) (by assumption) ?_
      rotate_left 1
      · (intro w hSw; (try dsimp only at hSw); go_simp; (try with_reducible rfl))
      (try simp only [Act.put, List.setIfInBounds_toArray, List.set_cons_zero, List.set_cons_succ])
      refine wpAnyH_take (i := 5) (oi := { dst := some 37, op := Op.binOp BinOp.sub 3 (Operand.const (Value.int IntKind.i64 1)) (Operand.tmp 36) 3, type := 3, pos := _, after := #[{ on := 4, ground := Ground.data }], guard := none }) (v := ?_) rfl (by kernel_rfl) (by kernel_rfl) (by kernel_rfl) (fun _ _ _ h => h) (Or.inl ⟨by rfl, ?_⟩) (by assumption) ?_
      rotate_left 1
      · (intro w hSw; (try dsimp only at hSw); go_simp; (try with_reducible rfl))
      (try simp only [Act.put, List.setIfInBounds_toArray, List.set_cons_zero, List.set_cons_succ])
      refine wpAnyH_take (i := 6) (oi := { dst := some 38, op := Op.move (Operand.tmp 1), type := 3, pos := _, after := #[], guard := none }) (v := ?_) rfl (by kernel_rfl) (by kernel_rfl) (by kernel_rfl) (fun _ _ _ h => h) (Or.inl ⟨by rfl, ?_⟩) (by assumption) ?_
      rotate_left 1
      · (intro w hSw; (try dsimp only at hSw); go_simp; (try with_reducible rfl))
      (try simp only [Act.put, List.setIfInBounds_toArray, List.set_cons_zero, List.set_cons_succ])
      refine wpAnyH_take (i := 7) (oi := { dst := some 39, op := Op.binOp BinOp.mul 3 (Operand.tmp 37) (Operand.tmp 38) 3, type := 3, pos := _, after := #[{ on := 5, ground := Ground.data }, { on := 6, ground := Ground.data }], guard := none }) (v := ?_) rfl (by kernel_rfl) (by kernel_rfl) (by kernel_rfl) (fun _ _ _ h => h) (Or.inl ⟨by rfl, ?_⟩) (by assumption) ?_
      rotate_left 1
      · (intro w hSw; (try dsimp only at hSw); go_simp; (try with_reducible rfl))
      (try simp only [Act.put, List.setIfInBounds_toArray, List.set_cons_zero, List.set_cons_succ])
      refine wpAnyH_take (i := 8) (oi := { dst := some 40, op := Op.fieldAddr 34 (Operand.tmp 3) 1, type := 0, pos := _, after := #[], guard := none }) (v := ?_) rfl (by kernel_rfl) (by kernel_rfl) (by kernel_rfl) (fun _ _ _ h => h) (Or.inl ⟨by rfl, ?_⟩) (by assumption) ?_
      rotate_left 1
      · (intro w hSw; (try dsimp only at hSw); go_simp; (try with_reducible rfl))
      (try simp only [Act.put, List.setIfInBounds_toArray, List.set_cons_zero, List.set_cons_succ])
      refine wpAnyH_take (i := 9) (oi := { dst := some 41, op := Op.load 3 (Operand.tmp 40), type := 3, pos := _, after := #[{ on := 8, ground := Ground.data }], guard := none }) (v := ?_) rfl (by kernel_rfl) (by kernel_rfl) (by kernel_rfl) (fun _ _ _ h => h) (Or.inl ⟨by rfl, ?_⟩) (by assumption) ?_
      rotate_left 1
      · (intro w hSw; (try dsimp only at hSw); go_simp; (try with_reducible rfl))
      (try simp only [Act.put, List.setIfInBounds_toArray, List.set_cons_zero, List.set_cons_succ])
      refine wpAnyH_take (i := 10) (oi := { dst := some 42, op := Op.binOp BinOp.sub 3 (Operand.tmp 41) (Operand.const (Value.int IntKind.i64 1)) 3, type := 3, pos := _, after := #[{ on := 9, ground := Ground.data }], guard := none }) (v := ?_) rfl (by kernel_rfl) (by kernel_rfl) (by kernel_rfl) (fun _ _ _ h => h) (Or.inl ⟨by rfl, ?_⟩) (by assumption) ?_
      rotate_left 1
      · (intro w hSw; (try dsimp only at hSw); go_simp; (try with_reducible rfl))
      (try simp only [Act.put, List.setIfInBounds_toArray, List.set_cons_zero, List.set_cons_succ])
      refine wpAnyH_take (i := 11) (oi := { dst := some 43, op := Op.move (Operand.tmp 1), type := 3, pos := _, after := #[], guard := none }) (v := ?_) rfl (by kernel_rfl) (by kernel_rfl) (by kernel_rfl) (fun _ _ _ h => h) (Or.inl ⟨by rfl, ?_⟩) (by assumption) ?_
      rotate_left 1
      · (intro w hSw; (try dsimp only at hSw); go_simp; (try with_reducible rfl))
      (try simp only [Act.put, List.setIfInBounds_toArray, List.set_cons_zero, List.set_cons_succ])
      refine wpAnyH_take (i := 12) (oi := { dst := some 44, op := Op.binOp BinOp.mul 3 (Operand.tmp 42) (Operand.tmp 43) 3, type := 3, pos := _, after := #[{ on := 10, ground := Ground.data }, { on := 11, ground := Ground.data }], guard := none }) (v := ?_) rfl (by kernel_rfl) (by kernel_rfl) (by kernel_rfl) (fun _ _ _ h => h) (Or.inl ⟨by rfl, ?_⟩) (by assumption) ?_
      rotate_left 1
      · (intro w hSw; (try dsimp only at hSw); go_simp; (try with_reducible rfl))
      (try simp only [Act.put, List.setIfInBounds_toArray, List.set_cons_zero, List.set_cons_succ])
      refine wpAnyH_ready (rs := [1]) (by kernel_rfl) (by simp) ?_
      refine AllReadyH.cons (o := { dst := some 33, op := Op.call { callee := Callee.value (Operand.func 73), args := #[Operand.tmp 32], argTypes := #[30] }, type := 112, pos := _, after := #[{ on := 0, ground := Ground.data }], guard := none }) rfl (fun K hK => ?_) AllReadyH.nil
      (first | (first | (go_at_call 73; refine (read_c (.slice A t.vals.length c) (.slice A' t.holes.length c') t _ hb3 ok.len ok.holes).mono ?_; rintro e w' ⟨g, rfl, hg, hbe⟩) | (go_at_call 88; refine (folded_c t.first ((1 - b) * step) ((a - 1) * step) (.slice A t.vals.length c) (.slice A' t.holes.length c') (.slice (some ⟨g, 0, none⟩) t.vals.length t.vals.length) (.slice Ao j co) t.vals (knS t.vals.length t.holes) (ltermsS b a step) _ ((hb3.1.below hbe).more hbe.size) (by have := hg.rd (by have := ok.len; simp [bools, knS_len]; omega); simpa [bools_len, knS_len] using this) (knS_len _ _) ((HRO.out.below hbe).more hbe.size) ok.f0 ok.f1 ok.len (by omega) (by omega) (by omega) (by omega) ok.val hlt'.1 hlt'.2).mono ?_; rintro e w' ⟨rv, rh, rfl, hr, hf1, hf2, hbf⟩; rw [hT2] at hr ⊢; obtain ⟨RA, rc, rfl, hr1, hr2⟩ := hr.1.slice; obtain ⟨RB, rd, rfl, hr3, hr4⟩ := hr.2.slice)) | (go_simp; (first | (go_at_call 73; refine (read_c (.slice A t.vals.length c) (.slice A' t.holes.length c') t _ hb3 ok.len ok.holes).mono ?_; rintro e w' ⟨g, rfl, hg, hbe⟩) | (go_at_call 88; refine (folded_c t.first ((1 - b) * step) ((a - 1) * step) (.slice A t.vals.length c) (.slice A' t.holes.length c') (.slice (some ⟨g, 0, none⟩) t.vals.length t.vals.length) (.slice Ao j co) t.vals (knS t.vals.length t.holes) (ltermsS b a step) _ ((hb3.1.below hbe).more hbe.size) (by have := hg.rd (by have := ok.len; simp [bools, knS_len]; omega); simpa [bools_len, knS_len] using this) (knS_len _ _) ((HRO.out.below hbe).more hbe.size) ok.f0 ok.f1 ok.len (by omega) (by omega) (by omega) (by omega) ok.val hlt'.1 hlt'.2).mono ?_; rintro e w' ⟨rv, rh, rfl, hr, hf1, hf2, hbf⟩; rw [hT2] at hr ⊢; obtain ⟨RA, rc, rfl, hr1, hr2⟩ := hr.1.slice; obtain ⟨RB, rd, rfl, hr3, hr4⟩ := hr.2.slice))))
      refine hK.out _ _ ?_ (fun hNew => ?_)
      · (try dsimp only); ((repeat' apply And.intro) <;> first | go_keep | exact cell_ext (by go_keep) hbe | (refine Below.ext ?_ hbe; first | assumption | exact And.left (by assumption) | exact And.left (And.right (by assumption)) | (repeat (first | with_reducible exact Below.refl _ _ | with_reducible assumption | with_reducible exact And.left (by assumption) | with_reducible exact And.left (And.right (by assumption)) | with_reducible refine Below.setCell ?_ (by dsimp only; omega) _ | with_reducible refine Below.allocE ?_ _ | with_reducible refine Below.drew ?_ | exact Below.refl _ _ | assumption | exact And.left (by assumption) | exact And.left (And.right (by assumption)) | refine Below.drew ?_ | refine Below.allocE ?_ _ | refine Below.setCell ?_ (by dsimp only; omega) _))) | exact cell_ext (by go_keep) hbf | (refine Below.ext ?_ hbf; first | assumption | exact And.left (by assumption) | exact And.left (And.right (by assumption)) | (repeat (first | with_reducible exact Below.refl _ _ | with_reducible assumption | with_reducible exact And.left (by assumption) | with_reducible exact And.left (And.right (by assumption)) | with_reducible refine Below.setCell ?_ (by dsimp only; omega) _ | with_reducible refine Below.allocE ?_ _ | with_reducible refine Below.drew ?_ | exact Below.refl _ _ | assumption | exact And.left (by assumption) | exact And.left (And.right (by assumption)) | refine Below.drew ?_ | refine Below.allocE ?_ _ | refine Below.setCell ?_ (by dsimp only; omega) _))) | (repeat (first | with_reducible exact Below.refl _ _ | with_reducible assumption | with_reducible exact And.left (by assumption) | with_reducible exact And.left (And.right (by assumption)) | with_reducible refine Below.setCell ?_ (by dsimp only; omega) _ | with_reducible refine Below.allocE ?_ _ | with_reducible refine Below.drew ?_ | exact Below.refl _ _ | assumption | exact And.left (by assumption) | exact And.left (And.right (by assumption)) | refine Below.drew ?_ | refine Below.allocE ?_ _ | refine Below.setCell ?_ (by dsimp only; omega) _)))
      clear hK K
      have hHeld := hNew
      clear hNew
      (try dsimp only at hHeld)
      (try simp only [Act.put, List.setIfInBounds_toArray, List.set_cons_zero, List.set_cons_succ])
      refine wpAnyH_ready (rs := [13]) (by kernel_rfl) (by simp) ?_
      refine AllReadyH.cons (o := { dst := some 45, op := Op.call { callee := Callee.value (Operand.func 88), args := #[Operand.tmp 33, Operand.tmp 34, Operand.tmp 39, Operand.tmp 44], argTypes := #[112, 124, 3, 3] }, type := 32, pos := _, after := #[{ on := 1, ground := Ground.data }, { on := 2, ground := Ground.data }, { on := 7, ground := Ground.data }, { on := 12, ground := Ground.data }, { on := 1, ground := Ground.chain }], guard := none }) rfl (fun K hK => ?_) AllReadyH.nil
      (first | (first | (go_at_call 73; refine (read_c (.slice A t.vals.length c) (.slice A' t.holes.length c') t _ hb3 ok.len ok.holes).mono ?_; rintro e w' ⟨g, rfl, hg, hbe⟩) | (go_at_call 88; refine (folded_c t.first ((1 - b) * step) ((a - 1) * step) (.slice A t.vals.length c) (.slice A' t.holes.length c') (.slice (some ⟨g, 0, none⟩) t.vals.length t.vals.length) (.slice Ao j co) t.vals (knS t.vals.length t.holes) (ltermsS b a step) _ ((hb3.1.below hbe).more hbe.size) (by have := hg.rd (by have := ok.len; simp [bools, knS_len]; omega); simpa [bools_len, knS_len] using this) (knS_len _ _) ((HRO.out.below hbe).more hbe.size) ok.f0 ok.f1 ok.len (by omega) (by omega) (by omega) (by omega) ok.val hlt'.1 hlt'.2).mono ?_; rintro e w' ⟨rv, rh, rfl, hr, hf1, hf2, hbf⟩; rw [hT2] at hr ⊢; obtain ⟨RA, rc, rfl, hr1, hr2⟩ := hr.1.slice; obtain ⟨RB, rd, rfl, hr3, hr4⟩ := hr.2.slice)) | (go_simp; (first | (go_at_call 73; refine (read_c (.slice A t.vals.length c) (.slice A' t.holes.length c') t _ hb3 ok.len ok.holes).mono ?_; rintro e w' ⟨g, rfl, hg, hbe⟩) | (go_at_call 88; refine (folded_c t.first ((1 - b) * step) ((a - 1) * step) (.slice A t.vals.length c) (.slice A' t.holes.length c') (.slice (some ⟨g, 0, none⟩) t.vals.length t.vals.length) (.slice Ao j co) t.vals (knS t.vals.length t.holes) (ltermsS b a step) _ ((hb3.1.below hbe).more hbe.size) (by have := hg.rd (by have := ok.len; simp [bools, knS_len]; omega); simpa [bools_len, knS_len] using this) (knS_len _ _) ((HRO.out.below hbe).more hbe.size) ok.f0 ok.f1 ok.len (by omega) (by omega) (by omega) (by omega) ok.val hlt'.1 hlt'.2).mono ?_; rintro e w' ⟨rv, rh, rfl, hr, hf1, hf2, hbf⟩; rw [hT2] at hr ⊢; obtain ⟨RA, rc, rfl, hr1, hr2⟩ := hr.1.slice; obtain ⟨RB, rd, rfl, hr3, hr4⟩ := hr.2.slice))))
      refine hK.out _ _ ?_ (fun hNew => ?_)
      · (try dsimp only); ((repeat' apply And.intro) <;> first | go_keep | exact cell_ext (by go_keep) hbe | (refine Below.ext ?_ hbe; first | assumption | exact And.left (by assumption) | exact And.left (And.right (by assumption)) | (repeat (first | with_reducible exact Below.refl _ _ | with_reducible assumption | with_reducible exact And.left (by assumption) | with_reducible exact And.left (And.right (by assumption)) | with_reducible refine Below.setCell ?_ (by dsimp only; omega) _ | with_reducible refine Below.allocE ?_ _ | with_reducible refine Below.drew ?_ | exact Below.refl _ _ | assumption | exact And.left (by assumption) | exact And.left (And.right (by assumption)) | refine Below.drew ?_ | refine Below.allocE ?_ _ | refine Below.setCell ?_ (by dsimp only; omega) _))) | exact cell_ext (by go_keep) hbf | (refine Below.ext ?_ hbf; first | assumption | exact And.left (by assumption) | exact And.left (And.right (by assumption)) | (repeat (first | with_reducible exact Below.refl _ _ | with_reducible assumption | with_reducible exact And.left (by assumption) | with_reducible exact And.left (And.right (by assumption)) | with_reducible refine Below.setCell ?_ (by dsimp only; omega) _ | with_reducible refine Below.allocE ?_ _ | with_reducible refine Below.drew ?_ | exact Below.refl _ _ | assumption | exact And.left (by assumption) | exact And.left (And.right (by assumption)) | refine Below.drew ?_ | refine Below.allocE ?_ _ | refine Below.setCell ?_ (by dsimp only; omega) _))) | (repeat (first | with_reducible exact Below.refl _ _ | with_reducible assumption | with_reducible exact And.left (by assumption) | with_reducible exact And.left (And.right (by assumption)) | with_reducible refine Below.setCell ?_ (by dsimp only; omega) _ | with_reducible refine Below.allocE ?_ _ | with_reducible refine Below.drew ?_ | exact Below.refl _ _ | assumption | exact And.left (by assumption) | exact And.left (And.right (by assumption)) | refine Below.drew ?_ | refine Below.allocE ?_ _ | refine Below.setCell ?_ (by dsimp only; omega) _)))
      clear hK K
      have hHeld := hNew
      clear hNew
      (try dsimp only at hHeld)
      (try simp only [Act.put, List.setIfInBounds_toArray, List.set_cons_zero, List.set_cons_succ])
      refine wpAnyH_take (i := 14) (oi := { dst := some 46, op := Op.extract (Operand.tmp 45) 0, type := 30, pos := _, after := #[{ on := 13, ground := Ground.data }], guard := none }) (v := ?_) rfl (by kernel_rfl) (by kernel_rfl) (by kernel_rfl) (fun _ _ _ h => h) (Or.inl ⟨by rfl, ?_⟩) (by assumption) ?_
      rotate_left 1
      · (intro w hSw; (try dsimp only at hSw); go_simp; (try with_reducible rfl))
      (try simp only [Act.put, List.setIfInBounds_toArray, List.set_cons_zero, List.set_cons_succ])
      refine wpAnyH_take (i := 15) (oi := { dst := some 47, op := Op.extract (Operand.tmp 45) 1, type := 31, pos := _, after := #[{ on := 13, ground := Ground.data }], guard := none }) (v := ?_) rfl (by kernel_rfl) (by kernel_rfl) (by kernel_rfl) (fun _ _ _ h => h) (Or.inl ⟨by rfl, ?_⟩) (by assumption) ?_
      rotate_left 1
      · (intro w hSw; (try dsimp only at hSw); go_simp; (try with_reducible rfl))
      (try simp only [Act.put, List.setIfInBounds_toArray, List.set_cons_zero, List.set_cons_succ])
      refine wpAnyH_ready (rs := [16]) (by kernel_rfl) (by simp) ?_
      refine AllReadyH.cons (o := { dst := none, op := Op.store 30 (Operand.tmp 6) (Operand.tmp 46), type := 0, pos := _, after := #[{ on := 14, ground := Ground.data }, { on := 13, ground := Ground.chain }, { on := 0, ground := Ground.phase }, { on := 1, ground := Ground.phase }, { on := 2, ground := Ground.phase }, { on := 3, ground := Ground.phase }, { on := 4, ground := Ground.phase }, { on := 5, ground := Ground.phase }, { on := 6, ground := Ground.phase }, { on := 7, ground := Ground.phase }, { on := 8, ground := Ground.phase }, { on := 9, ground := Ground.phase }, { on := 10, ground := Ground.phase }, { on := 11, ground := Ground.phase }, { on := 12, ground := Ground.phase }, { on := 13, ground := Ground.phase }, { on := 14, ground := Ground.phase }, { on := 15, ground := Ground.phase }], guard := none }) rfl (fun K hK => ?_) AllReadyH.nil
      (first | ((try simp only [trv]); have q0 := ((m3.drew.ext hbe).ext hbf).c 0 _ rfl; have q1 := ((m3.drew.ext hbe).ext hbf).c 1 _ rfl; have q2 := ((m3.drew.ext hbe).ext hbf).c 2 _ rfl; have q3 := ((m3.drew.ext hbe).ext hbf).frozen; go_simp) | go_simp)
      refine hK.out _ _ ?_ (fun hNew => ?_)
      · (try dsimp only); ((repeat' apply And.intro) <;> first | go_keep | exact cell_ext (by go_keep) hbe | (refine Below.ext ?_ hbe; first | assumption | exact And.left (by assumption) | exact And.left (And.right (by assumption)) | (repeat (first | with_reducible exact Below.refl _ _ | with_reducible assumption | with_reducible exact And.left (by assumption) | with_reducible exact And.left (And.right (by assumption)) | with_reducible refine Below.setCell ?_ (by dsimp only; omega) _ | with_reducible refine Below.allocE ?_ _ | with_reducible refine Below.drew ?_ | exact Below.refl _ _ | assumption | exact And.left (by assumption) | exact And.left (And.right (by assumption)) | refine Below.drew ?_ | refine Below.allocE ?_ _ | refine Below.setCell ?_ (by dsimp only; omega) _))) | exact cell_ext (by go_keep) hbf | (refine Below.ext ?_ hbf; first | assumption | exact And.left (by assumption) | exact And.left (And.right (by assumption)) | (repeat (first | with_reducible exact Below.refl _ _ | with_reducible assumption | with_reducible exact And.left (by assumption) | with_reducible exact And.left (And.right (by assumption)) | with_reducible refine Below.setCell ?_ (by dsimp only; omega) _ | with_reducible refine Below.allocE ?_ _ | with_reducible refine Below.drew ?_ | exact Below.refl _ _ | assumption | exact And.left (by assumption) | exact And.left (And.right (by assumption)) | refine Below.drew ?_ | refine Below.allocE ?_ _ | refine Below.setCell ?_ (by dsimp only; omega) _))) | (repeat (first | with_reducible exact Below.refl _ _ | with_reducible assumption | with_reducible exact And.left (by assumption) | with_reducible exact And.left (And.right (by assumption)) | with_reducible refine Below.setCell ?_ (by dsimp only; omega) _ | with_reducible refine Below.allocE ?_ _ | with_reducible refine Below.drew ?_ | exact Below.refl _ _ | assumption | exact And.left (by assumption) | exact And.left (And.right (by assumption)) | refine Below.drew ?_ | refine Below.allocE ?_ _ | refine Below.setCell ?_ (by dsimp only; omega) _)))
      clear hK K
      have hHeld := hNew
      clear hNew
      (try dsimp only at hHeld)
      (try simp only [Act.put, List.setIfInBounds_toArray, List.set_cons_zero, List.set_cons_succ])
      refine wpAnyH_take (i := 17) (oi := { dst := some 7, op := Op.assign (Operand.tmp 47), type := 31, pos := _, after := #[{ on := 15, ground := Ground.data }, { on := 16, ground := Ground.chain }, { on := 0, ground := Ground.phase }, { on := 1, ground := Ground.phase }, { on := 2, ground := Ground.phase }, { on := 3, ground := Ground.phase }, { on := 4, ground := Ground.phase }, { on := 5, ground := Ground.phase }, { on := 6, ground := Ground.phase }, { on := 7, ground := Ground.phase }, { on := 8, ground := Ground.phase }, { on := 9, ground := Ground.phase }, { on := 10, ground := Ground.phase }, { on := 11, ground := Ground.phase }, { on := 12, ground := Ground.phase }, { on := 13, ground := Ground.phase }, { on := 14, ground := Ground.phase }, { on := 15, ground := Ground.phase }, { on := 16, ground := Ground.phase }], guard := none }) (v := ?_) rfl (by kernel_rfl) (by kernel_rfl) (by kernel_rfl) (fun _ _ _ h => h) (Or.inl ⟨by rfl, ?_⟩) (by assumption) ?_
      rotate_left 1
      · (intro w hSw; (try dsimp only at hSw); go_simp; (try with_reducible rfl))
      (try simp only [Act.put, List.setIfInBounds_toArray, List.set_cons_zero, List.set_cons_succ])
      refine wpAnyH_done (by kernel_rfl) ?_ _
      refine NoPanic.normal ?_
      have hs3 := hbe.size
      simp only [World.drew] at hs3
      have m9 := blk_trace ((m3.drew.ext hbe).ext hbf) (.int .i64 (T).1.first) (.slice RA (T).1.vals.length rc) (.slice RB (T).1.holes.length rd); have p0 := m9.c 0 _ rfl; have p1 := m9.c 1 _ rfl; have p2 := m9.c 2 _ rfl; have hB9 := hHeld.1; clear hHeld q0 q1 q2 q3; go_wp2; (try simp only [Exit.inBlock, Exit.then]); refine bodyPost_ret (v := .tuple #[trv (T).1.first (.slice RA (T).1.vals.length rc) (.slice RB (T).1.holes.length rd), .int .i64 (T).2]) (by simp [results, Tryd.results80, go_sem, p0, p1, p2, trv]) rfl ?_; (try rw [hT]); exact tr_end (G := w.heap.size + 1 + 1) hr hf1 hf2 (by omega) (by omega) _ _ _ hB9


def WeightedS (b a : Int) (t : Tr) : Tr × Int :=
  if firstS [chordS b a, traceS t] ≠ 0 then (⟨0, [], []⟩, firstS [chordS b a, traceS t]) else lengthenedS b a 1 t

set_option maxRecDepth 20000 in
set_option maxHeartbeats 1000000 in
theorem Weighted_c (b a : Int) (vv hv : Value) (t : Tr) (w : World) (h : RdT w w.heap.size vv hv t) :
    Calls Tryd.prog 25 #[.agg #[.int .i64 b, .int .i64 a], trv t.first vv hv] w (TrPost w (WeightedS b a t)) := by
  obtain ⟨A, c, rfl, h1, h2⟩ := h.1.slice
  obtain ⟨A', c', rfl, h1', h2'⟩ := h.2.slice
  unfold trv
  go_enter Tryd.func25, Tryd.ntmps25
  go_wp2
  obtain ⟨k1, k2, k3, hB⟩ := alloc3 w #[.int .i64 b, .int .i64 a] #[.int .i64 t.first, .slice A t.vals.length c, .slice A' t.holes.length c'] #[.int .i64 0, .slice none 0 0, .slice none 0 0] 34 30 30
  generalize World.alloc (World.alloc (World.alloc w _) _) _ = W at *
  have c0 := k1.c 0 _ rfl
  have c1 := k1.c 1 _ rfl
  have d0 := k2.c 0 _ rfl
  have d1 := k2.c 1 _ rfl
  have d2 := k2.c 2 _ rfl
  have hlt := k3.lt
  have hs0 := hB.size
  have hb : RdT W.drew W.drew.heap.size (.slice A t.vals.length c) (.slice A' t.holes.length c') t := (h.below hB).more hB.size
  have n1 : w.heap.size ≠ w.heap.size + 1 + 1 := by omega
  have n2 : w.heap.size + 1 ≠ w.heap.size + 1 + 1 := by omega
  have n3 := n1.symm
  have n4 := n2.symm
  refine wp_region_noPanic ?_
  refine wp_region_held_drew (S := fun w' => Below w.heap.size w w' ∧ w'.cell? ⟨w.heap.size, 0, none⟩ = some (.int .i64 b) ∧ w'.cell? ⟨w.heap.size, 1, none⟩ = some (.int .i64 a) ∧ w'.cell? ⟨w.heap.size + 1, 0, none⟩ = some (.int .i64 t.first) ∧ w'.cell? ⟨w.heap.size + 1, 1, none⟩ = some (.slice A t.vals.length c) ∧ w'.cell? ⟨w.heap.size + 1, 2, none⟩ = some (.slice A' t.holes.length c')) (by kernel_rfl) ?_ (fun hHeld => ?_)
  · first | exact rfl | ((try dsimp only); ((repeat' apply And.intro) <;> first | go_keep | exact cell_ext (by go_keep) hbe | (refine Below.ext ?_ hbe; first | assumption | exact And.left (by assumption) | exact And.left (And.right (by assumption)) | (repeat (first | with_reducible exact Below.refl _ _ | with_reducible assumption | with_reducible exact And.left (by assumption) | with_reducible exact And.left (And.right (by assumption)) | with_reducible refine Below.setCell ?_ (by dsimp only; omega) _ | with_reducible refine Below.allocE ?_ _ | with_reducible refine Below.drew ?_ | exact Below.refl _ _ | assumption | exact And.left (by assumption) | exact And.left (And.right (by assumption)) | refine Below.drew ?_ | refine Below.allocE ?_ _ | refine Below.setCell ?_ (by dsimp only; omega) _))) | exact cell_ext (by go_keep) hbf | (refine Below.ext ?_ hbf; first | assumption | exact And.left (by assumption) | exact And.left (And.right (by assumption)) | (repeat (first | with_reducible exact Below.refl _ _ | with_reducible assumption | with_reducible exact And.left (by assumption) | with_reducible exact And.left (And.right (by assumption)) | with_reducible refine Below.setCell ?_ (by dsimp only; omega) _ | with_reducible refine Below.allocE ?_ _ | with_reducible refine Below.drew ?_ | exact Below.refl _ _ | assumption | exact And.left (by assumption) | exact And.left (And.right (by assumption)) | refine Below.drew ?_ | refine Below.allocE ?_ _ | refine Below.setCell ?_ (by dsimp only; omega) _))) | (repeat (first | with_reducible exact Below.refl _ _ | with_reducible assumption | with_reducible exact And.left (by assumption) | with_reducible exact And.left (And.right (by assumption)) | with_reducible refine Below.setCell ?_ (by dsimp only; omega) _ | with_reducible refine Below.allocE ?_ _ | with_reducible refine Below.drew ?_ | exact Below.refl _ _ | assumption | exact And.left (by assumption) | exact And.left (And.right (by assumption)) | refine Below.drew ?_ | refine Below.allocE ?_ _ | refine Below.setCell ?_ (by dsimp only; omega) _))))
  refine wpAnyH_take (i := 0) (oi := { dst := some 7, op := Op.load 34 (Operand.tmp 2), type := 34, pos := _, after := #[], guard := none }) (v := ?_) rfl (by kernel_rfl) (by kernel_rfl) (by kernel_rfl) (fun _ _ _ h => h) (Or.inl ⟨by rfl, ?_⟩) (by assumption) ?_
  rotate_left 1
  · (intro w hSw; (try dsimp only at hSw); go_simp; (try with_reducible rfl))
  (try simp only [Act.put, List.setIfInBounds_toArray, List.set_cons_zero, List.set_cons_succ])
  refine wpAnyH_take (i := 2) (oi := { dst := some 9, op := Op.load 30 (Operand.tmp 3), type := 30, pos := _, after := #[], guard := none }) (v := ?_) rfl (by kernel_rfl) (by kernel_rfl) (by kernel_rfl) (fun _ _ _ h => h) (Or.inl ⟨by rfl, ?_⟩) (by assumption) ?_
  rotate_left 1
  · (intro w hSw; (try dsimp only at hSw); go_simp; (try with_reducible rfl))
  (try simp only [Act.put, List.setIfInBounds_toArray, List.set_cons_zero, List.set_cons_succ])
  refine wpAnyH_ready (rs := [1]) (by kernel_rfl) (by simp) ?_
  refine AllReadyH.cons (o := { dst := some 8, op := Op.call { callee := Callee.value (Operand.func 63), args := #[Operand.tmp 7], argTypes := #[34] }, type := 31, pos := _, after := #[{ on := 0, ground := Ground.data }], guard := none }) rfl (fun K hK => ?_) AllReadyH.nil
  (first | (first | (go_at_call 63; refine (CheckChord_c b a _).mono ?_; rintro e w' ⟨rfl, hbe⟩) | (go_at_call 64; refine (CheckTrace_c (.slice A t.vals.length c) (.slice A' t.holes.length c') t _ ((hb.below hbe).more hbe.size)).mono ?_; rintro e w' ⟨rfl, hbf⟩) | (go_at_call 72; refine (first_c _ [?_, ?_] _ ?_).mono ?_; rotate_left 2; (refine Rd.fresh _ _ _ _ ?_ ?_ ?_ <;> simp); rintro e w' ⟨rfl, rfl⟩)) | (go_simp; (first | (go_at_call 63; refine (CheckChord_c b a _).mono ?_; rintro e w' ⟨rfl, hbe⟩) | (go_at_call 64; refine (CheckTrace_c (.slice A t.vals.length c) (.slice A' t.holes.length c') t _ ((hb.below hbe).more hbe.size)).mono ?_; rintro e w' ⟨rfl, hbf⟩) | (go_at_call 72; refine (first_c _ [?_, ?_] _ ?_).mono ?_; rotate_left 2; (refine Rd.fresh _ _ _ _ ?_ ?_ ?_ <;> simp); rintro e w' ⟨rfl, rfl⟩))))
  refine hK.out _ _ ?_ (fun hNew => ?_)
  · (try dsimp only); ((repeat' apply And.intro) <;> first | go_keep | exact cell_ext (by go_keep) hbe | (refine Below.ext ?_ hbe; first | assumption | exact And.left (by assumption) | exact And.left (And.right (by assumption)) | (repeat (first | with_reducible exact Below.refl _ _ | with_reducible assumption | with_reducible exact And.left (by assumption) | with_reducible exact And.left (And.right (by assumption)) | with_reducible refine Below.setCell ?_ (by dsimp only; omega) _ | with_reducible refine Below.allocE ?_ _ | with_reducible refine Below.drew ?_ | exact Below.refl _ _ | assumption | exact And.left (by assumption) | exact And.left (And.right (by assumption)) | refine Below.drew ?_ | refine Below.allocE ?_ _ | refine Below.setCell ?_ (by dsimp only; omega) _))) | exact cell_ext (by go_keep) hbf | (refine Below.ext ?_ hbf; first | assumption | exact And.left (by assumption) | exact And.left (And.right (by assumption)) | (repeat (first | with_reducible exact Below.refl _ _ | with_reducible assumption | with_reducible exact And.left (by assumption) | with_reducible exact And.left (And.right (by assumption)) | with_reducible refine Below.setCell ?_ (by dsimp only; omega) _ | with_reducible refine Below.allocE ?_ _ | with_reducible refine Below.drew ?_ | exact Below.refl _ _ | assumption | exact And.left (by assumption) | exact And.left (And.right (by assumption)) | refine Below.drew ?_ | refine Below.allocE ?_ _ | refine Below.setCell ?_ (by dsimp only; omega) _))) | (repeat (first | with_reducible exact Below.refl _ _ | with_reducible assumption | with_reducible exact And.left (by assumption) | with_reducible exact And.left (And.right (by assumption)) | with_reducible refine Below.setCell ?_ (by dsimp only; omega) _ | with_reducible refine Below.allocE ?_ _ | with_reducible refine Below.drew ?_ | exact Below.refl _ _ | assumption | exact And.left (by assumption) | exact And.left (And.right (by assumption)) | refine Below.drew ?_ | refine Below.allocE ?_ _ | refine Below.setCell ?_ (by dsimp only; omega) _)))
  clear hK K
  have hHeld := hNew
  clear hNew
  (try dsimp only at hHeld)
  (try simp only [Act.put, List.setIfInBounds_toArray, List.set_cons_zero, List.set_cons_succ])
  refine wpAnyH_ready (rs := [3]) (by kernel_rfl) (by simp) ?_
  refine AllReadyH.cons (o := { dst := some 10, op := Op.call { callee := Callee.value (Operand.func 64), args := #[Operand.tmp 9], argTypes := #[30] }, type := 31, pos := _, after := #[{ on := 2, ground := Ground.data }, { on := 1, ground := Ground.chain }], guard := none }) rfl (fun K hK => ?_) AllReadyH.nil
  (first | (first | (go_at_call 63; refine (CheckChord_c b a _).mono ?_; rintro e w' ⟨rfl, hbe⟩) | (go_at_call 64; refine (CheckTrace_c (.slice A t.vals.length c) (.slice A' t.holes.length c') t _ ((hb.below hbe).more hbe.size)).mono ?_; rintro e w' ⟨rfl, hbf⟩) | (go_at_call 72; refine (first_c _ [?_, ?_] _ ?_).mono ?_; rotate_left 2; (refine Rd.fresh _ _ _ _ ?_ ?_ ?_ <;> simp); rintro e w' ⟨rfl, rfl⟩)) | (go_simp; (first | (go_at_call 63; refine (CheckChord_c b a _).mono ?_; rintro e w' ⟨rfl, hbe⟩) | (go_at_call 64; refine (CheckTrace_c (.slice A t.vals.length c) (.slice A' t.holes.length c') t _ ((hb.below hbe).more hbe.size)).mono ?_; rintro e w' ⟨rfl, hbf⟩) | (go_at_call 72; refine (first_c _ [?_, ?_] _ ?_).mono ?_; rotate_left 2; (refine Rd.fresh _ _ _ _ ?_ ?_ ?_ <;> simp); rintro e w' ⟨rfl, rfl⟩))))
  refine hK.out _ _ ?_ (fun hNew => ?_)
  · (try dsimp only); ((repeat' apply And.intro) <;> first | go_keep | exact cell_ext (by go_keep) hbe | (refine Below.ext ?_ hbe; first | assumption | exact And.left (by assumption) | exact And.left (And.right (by assumption)) | (repeat (first | with_reducible exact Below.refl _ _ | with_reducible assumption | with_reducible exact And.left (by assumption) | with_reducible exact And.left (And.right (by assumption)) | with_reducible refine Below.setCell ?_ (by dsimp only; omega) _ | with_reducible refine Below.allocE ?_ _ | with_reducible refine Below.drew ?_ | exact Below.refl _ _ | assumption | exact And.left (by assumption) | exact And.left (And.right (by assumption)) | refine Below.drew ?_ | refine Below.allocE ?_ _ | refine Below.setCell ?_ (by dsimp only; omega) _))) | exact cell_ext (by go_keep) hbf | (refine Below.ext ?_ hbf; first | assumption | exact And.left (by assumption) | exact And.left (And.right (by assumption)) | (repeat (first | with_reducible exact Below.refl _ _ | with_reducible assumption | with_reducible exact And.left (by assumption) | with_reducible exact And.left (And.right (by assumption)) | with_reducible refine Below.setCell ?_ (by dsimp only; omega) _ | with_reducible refine Below.allocE ?_ _ | with_reducible refine Below.drew ?_ | exact Below.refl _ _ | assumption | exact And.left (by assumption) | exact And.left (And.right (by assumption)) | refine Below.drew ?_ | refine Below.allocE ?_ _ | refine Below.setCell ?_ (by dsimp only; omega) _))) | (repeat (first | with_reducible exact Below.refl _ _ | with_reducible assumption | with_reducible exact And.left (by assumption) | with_reducible exact And.left (And.right (by assumption)) | with_reducible refine Below.setCell ?_ (by dsimp only; omega) _ | with_reducible refine Below.allocE ?_ _ | with_reducible refine Below.drew ?_ | exact Below.refl _ _ | assumption | exact And.left (by assumption) | exact And.left (And.right (by assumption)) | refine Below.drew ?_ | refine Below.allocE ?_ _ | refine Below.setCell ?_ (by dsimp only; omega) _)))
  clear hK K
  have hHeld := hNew
  clear hNew
  (try dsimp only at hHeld)
  (try simp only [Act.put, List.setIfInBounds_toArray, List.set_cons_zero, List.set_cons_succ])
  refine wpAnyH_ready (rs := [4]) (by kernel_rfl) (by simp) ?_
  refine AllReadyH.cons (o := { dst := some 11, op := Op.buildSlice 145 2 #[(0, Operand.tmp 8), (1, Operand.tmp 10)], type := 145, pos := _, after := #[{ on := 1, ground := Ground.data }, { on := 3, ground := Ground.data }], guard := none }) rfl (fun K hK => ?_) AllReadyH.nil
  (first  | go_simp)
  refine hK.out _ _ ?_ (fun hNew => ?_)
  · (try dsimp only); ((repeat' apply And.intro) <;> first | go_keep | exact cell_ext (by go_keep) hbe | (refine Below.ext ?_ hbe; first | assumption | exact And.left (by assumption) | exact And.left (And.right (by assumption)) | (repeat (first | with_reducible exact Below.refl _ _ | with_reducible assumption | with_reducible exact And.left (by assumption) | with_reducible exact And.left (And.right (by assumption)) | with_reducible refine Below.setCell ?_ (by dsimp only; omega) _ | with_reducible refine Below.allocE ?_ _ | with_reducible refine Below.drew ?_ | exact Below.refl _ _ | assumption | exact And.left (by assumption) | exact And.left (And.right (by assumption)) | refine Below.drew ?_ | refine Below.allocE ?_ _ | refine Below.setCell ?_ (by dsimp only; omega) _))) | exact cell_ext (by go_keep) hbf | (refine Below.ext ?_ hbf; first | assumption | exact And.left (by assumption) | exact And.left (And.right (by assumption)) | (repeat (first | with_reducible exact Below.refl _ _ | with_reducible assumption | with_reducible exact And.left (by assumption) | with_reducible exact And.left (And.right (by assumption)) | with_reducible refine Below.setCell ?_ (by dsimp only; omega) _ | with_reducible refine Below.allocE ?_ _ | with_reducible refine Below.drew ?_ | exact Below.refl _ _ | assumption | exact And.left (by assumption) | exact And.left (And.right (by assumption)) | refine Below.drew ?_ | refine Below.allocE ?_ _ | refine Below.setCell ?_ (by dsimp only; omega) _))) | (repeat (first | with_reducible exact Below.refl _ _ | with_reducible assumption | with_reducible exact And.left (by assumption) | with_reducible exact And.left (And.right (by assumption)) | with_reducible refine Below.setCell ?_ (by dsimp only; omega) _ | with_reducible refine Below.allocE ?_ _ | with_reducible refine Below.drew ?_ | exact Below.refl _ _ | assumption | exact And.left (by assumption) | exact And.left (And.right (by assumption)) | refine Below.drew ?_ | refine Below.allocE ?_ _ | refine Below.setCell ?_ (by dsimp only; omega) _)))
  clear hK K
  have hHeld := hNew
  clear hNew
  (try dsimp only at hHeld)
  (try simp only [Act.put, List.setIfInBounds_toArray, List.set_cons_zero, List.set_cons_succ])
  refine wpAnyH_ready (rs := [5]) (by kernel_rfl) (by simp) ?_
  refine AllReadyH.cons (o := { dst := some 12, op := Op.call { callee := Callee.value (Operand.func 72), args := #[Operand.tmp 11], argTypes := #[145] }, type := 31, pos := _, after := #[{ on := 4, ground := Ground.data }, { on := 3, ground := Ground.chain }], guard := none }) rfl (fun K hK => ?_) AllReadyH.nil
  (first | (first | (go_at_call 63; refine (CheckChord_c b a _).mono ?_; rintro e w' ⟨rfl, hbe⟩) | (go_at_call 64; refine (CheckTrace_c (.slice A t.vals.length c) (.slice A' t.holes.length c') t _ ((hb.below hbe).more hbe.size)).mono ?_; rintro e w' ⟨rfl, hbf⟩) | (go_at_call 72; refine (first_c _ [?_, ?_] _ ?_).mono ?_; rotate_left 2; (refine Rd.fresh _ _ _ _ ?_ ?_ ?_ <;> simp); rintro e w' ⟨rfl, rfl⟩)) | (go_simp; (first | (go_at_call 63; refine (CheckChord_c b a _).mono ?_; rintro e w' ⟨rfl, hbe⟩) | (go_at_call 64; refine (CheckTrace_c (.slice A t.vals.length c) (.slice A' t.holes.length c') t _ ((hb.below hbe).more hbe.size)).mono ?_; rintro e w' ⟨rfl, hbf⟩) | (go_at_call 72; refine (first_c _ [?_, ?_] _ ?_).mono ?_; rotate_left 2; (refine Rd.fresh _ _ _ _ ?_ ?_ ?_ <;> simp); rintro e w' ⟨rfl, rfl⟩))))
  refine hK.out _ _ ?_ (fun hNew => ?_)
  · (try dsimp only); ((repeat' apply And.intro) <;> first | go_keep | exact cell_ext (by go_keep) hbe | (refine Below.ext ?_ hbe; first | assumption | exact And.left (by assumption) | exact And.left (And.right (by assumption)) | (repeat (first | with_reducible exact Below.refl _ _ | with_reducible assumption | with_reducible exact And.left (by assumption) | with_reducible exact And.left (And.right (by assumption)) | with_reducible refine Below.setCell ?_ (by dsimp only; omega) _ | with_reducible refine Below.allocE ?_ _ | with_reducible refine Below.drew ?_ | exact Below.refl _ _ | assumption | exact And.left (by assumption) | exact And.left (And.right (by assumption)) | refine Below.drew ?_ | refine Below.allocE ?_ _ | refine Below.setCell ?_ (by dsimp only; omega) _))) | exact cell_ext (by go_keep) hbf | (refine Below.ext ?_ hbf; first | assumption | exact And.left (by assumption) | exact And.left (And.right (by assumption)) | (repeat (first | with_reducible exact Below.refl _ _ | with_reducible assumption | with_reducible exact And.left (by assumption) | with_reducible exact And.left (And.right (by assumption)) | with_reducible refine Below.setCell ?_ (by dsimp only; omega) _ | with_reducible refine Below.allocE ?_ _ | with_reducible refine Below.drew ?_ | exact Below.refl _ _ | assumption | exact And.left (by assumption) | exact And.left (And.right (by assumption)) | refine Below.drew ?_ | refine Below.allocE ?_ _ | refine Below.setCell ?_ (by dsimp only; omega) _))) | (repeat (first | with_reducible exact Below.refl _ _ | with_reducible assumption | with_reducible exact And.left (by assumption) | with_reducible exact And.left (And.right (by assumption)) | with_reducible refine Below.setCell ?_ (by dsimp only; omega) _ | with_reducible refine Below.allocE ?_ _ | with_reducible refine Below.drew ?_ | exact Below.refl _ _ | assumption | exact And.left (by assumption) | exact And.left (And.right (by assumption)) | refine Below.drew ?_ | refine Below.allocE ?_ _ | refine Below.setCell ?_ (by dsimp only; omega) _)))
  clear hK K
  have hHeld := hNew
  clear hNew
  (try dsimp only at hHeld)
  (try simp only [Act.put, List.setIfInBounds_toArray, List.set_cons_zero, List.set_cons_succ])
  refine wpAnyH_take (i := 6) (oi := { dst := some 6, op := Op.assign (Operand.tmp 12), type := 31, pos := _, after := #[{ on := 5, ground := Ground.data }, { on := 5, ground := Ground.chain }, { on := 0, ground := Ground.phase }, { on := 1, ground := Ground.phase }, { on := 2, ground := Ground.phase }, { on := 3, ground := Ground.phase }, { on := 4, ground := Ground.phase }, { on := 5, ground := Ground.phase }], guard := none }) (v := ?_) rfl (by kernel_rfl) (by kernel_rfl) (by kernel_rfl) (fun _ _ _ h => h) (Or.inl ⟨by rfl, ?_⟩) (by assumption) ?_
  rotate_left 1
  · (intro w hSw; (try dsimp only at hSw); go_simp; (try with_reducible rfl))
  (try simp only [Act.put, List.setIfInBounds_toArray, List.set_cons_zero, List.set_cons_succ])
  refine wpAnyH_done (by kernel_rfl) ?_ _
  refine NoPanic.normal ?_
  have hX : Below W.drew.heap.size W.drew (w'.alloc (.cells #[.int .i64 (chordS b a), .int .i64 (traceS t)] 31)) := Below.allocE (Below.ext hbe hbf) _
  obtain ⟨hA, u0, u1, u2, u3, u4⟩ := hHeld
  clear hbe hbf
  generalize World.alloc w' _ = X at *
  have m3 := k3.drew.ext hX
  have hb2 := (hb.below hX).more hX.size
  by_cases he : firstS [chordS b a, traceS t] = 0
  · have hok := he
    rw [firstS_eq] at hok
    have ok1 := chordS_ok (hok (chordS b a) (by simp))
    have ok2 := traceS_ok (hok (traceS t) (by simp))
    clear hok
    go_wp2_with fail
    obtain ⟨T, hT⟩ : ∃ T, WeightedS b a t = T := ⟨_, rfl⟩
    have hT2 : lengthenedS b a 1 t = T := by rw [← hT]; unfold WeightedS; rw [if_neg (by simpa using he)]
    have hs9 := hA.size
    refine (lengthened_c b a 1 (.slice A t.vals.length c) (.slice A' t.holes.length c') t _ ok1.1.1 ok1.1.2 ok1.2.1 ok1.2.2 (by omega) (by omega) hb2 ok2).mono ?_; rintro e w' ⟨rv, rh, rfl, hr, hf1, hf2, hbf⟩; rw [hT2] at hr ⊢; obtain ⟨RA, rc, rfl, hr1, hr2⟩ := hr.1.slice; obtain ⟨RB, rd, rfl, hr3, hr4⟩ := hr.2.slice; (try simp only [trv]); have m5 := (m3).ext hbf; have q0 := m5.c 0 _ rfl; have q1 := m5.c 1 _ rfl; have q2 := m5.c 2 _ rfl; have q3 := m5.frozen; have hAE : Below w.heap.size w w' := Below.ext hA hbf; have hltE := (m3).lt; go_wp2; have m9 := blk_trace m5 (.int .i64 T.1.first) (.slice RA T.1.vals.length rc) (.slice RB T.1.holes.length rd); have p0 := m9.c 0 _ rfl; have p1 := m9.c 1 _ rfl; have p2 := m9.c 2 _ rfl; clear q0 q1 q2 q3; (try simp only [Exit.inBlock, Exit.then]); refine bodyPost_ret (v := .tuple #[trv T.1.first (.slice RA T.1.vals.length rc) (.slice RB T.1.holes.length rd), .int .i64 T.2]) (by simp [results, Tryd.results25, go_sem, p0, p1, p2, trv]) rfl ?_; (try rw [hT]); exact tr_end (G := w.heap.size + 1 + 1) hr hf1 hf2 (by omega) (by omega) _ _ _ (by (repeat (first | with_reducible exact Below.refl _ _ | with_reducible assumption | with_reducible exact And.left (by assumption) | with_reducible exact And.left (And.right (by assumption)) | with_reducible refine Below.setCell ?_ (by dsimp only; omega) _ | with_reducible refine Below.allocE ?_ _ | with_reducible refine Below.drew ?_ | exact Below.refl _ _ | assumption | exact And.left (by assumption) | exact And.left (And.right (by assumption)) | refine Below.drew ?_ | refine Below.allocE ?_ _ | refine Below.setCell ?_ (by dsimp only; omega) _)))
  · have HE := Lib.hid he
    obtain ⟨e, hE⟩ : ∃ e, firstS [chordS b a, traceS t] = e := ⟨_, rfl⟩
    rw [hE] at he ⊢
    have q0 := m3.c 0 _ rfl
    have q1 := m3.c 1 _ rfl
    have q2 := m3.c 2 _ rfl
    have q3 := m3.frozen
    go_wp2
    have m4 := blk_trace m3 (.int .i64 0) (.slice none 0 0) (.slice none 0 0)
    have p0 := m4.c 0 _ rfl
    have p1 := m4.c 1 _ rfl
    have p2 := m4.c 2 _ rfl
    clear q0 q1 q2 q3
    (try simp only [Exit.inBlock, Exit.then]); refine bodyPost_ret (v := .tuple #[trv 0 (.slice none 0 0) (.slice none 0 0), .int .i64 e]) (by simp [results, Tryd.results25, go_sem, p0, p1, p2, trv]) rfl ?_
    unfold WeightedS
    rw [if_pos HE.out, hE]
    exact tr_none e (by (repeat (first | with_reducible exact Below.refl _ _ | with_reducible assumption | with_reducible exact And.left (by assumption) | with_reducible exact And.left (And.right (by assumption)) | with_reducible refine Below.setCell ?_ (by dsimp only; omega) _ | with_reducible refine Below.allocE ?_ _ | with_reducible refine Below.drew ?_ | exact Below.refl _ _ | assumption | exact And.left (by assumption) | exact And.left (And.right (by assumption)) | refine Below.drew ?_ | refine Below.allocE ?_ _ | refine Below.setCell ?_ (by dsimp only; omega) _)))

def LengthenedS (b a step : Int) (t : Tr) : Tr × Int :=
  if firstS [chordS b a, withinS step 1 32, traceS t] ≠ 0 then (⟨0, [], []⟩, firstS [chordS b a, withinS step 1 32, traceS t]) else lengthenedS b a step t

set_option maxRecDepth 20000 in
set_option maxHeartbeats 1000000 in
theorem Lengthened_c (b a step : Int) (vv hv : Value) (t : Tr) (w : World) (h : RdT w w.heap.size vv hv t) :
    Calls Tryd.prog 26 #[.agg #[.int .i64 b, .int .i64 a], .int .i64 step, trv t.first vv hv] w (TrPost w (LengthenedS b a step t)) := by
  obtain ⟨A, c, rfl, h1, h2⟩ := h.1.slice
  obtain ⟨A', c', rfl, h1', h2'⟩ := h.2.slice
  unfold trv
  go_enter Tryd.func26, Tryd.ntmps26
  go_wp2
  obtain ⟨k1, k2, k3, hB⟩ := alloc3 w #[.int .i64 b, .int .i64 a] #[.int .i64 t.first, .slice A t.vals.length c, .slice A' t.holes.length c'] #[.int .i64 0, .slice none 0 0, .slice none 0 0] 34 30 30
  generalize World.alloc (World.alloc (World.alloc w _) _) _ = W at *
  have c0 := k1.c 0 _ rfl
  have c1 := k1.c 1 _ rfl
  have d0 := k2.c 0 _ rfl
  have d1 := k2.c 1 _ rfl
  have d2 := k2.c 2 _ rfl
  have hlt := k3.lt
  have hs0 := hB.size
  have hb : RdT W.drew W.drew.heap.size (.slice A t.vals.length c) (.slice A' t.holes.length c') t := (h.below hB).more hB.size
  have n1 : w.heap.size ≠ w.heap.size + 1 + 1 := by omega
  have n2 : w.heap.size + 1 ≠ w.heap.size + 1 + 1 := by omega
  have n3 := n1.symm
  have n4 := n2.symm
  refine wp_region_noPanic ?_
  refine wp_region_held_drew (S := fun w' => Below w.heap.size w w' ∧ w'.cell? ⟨w.heap.size, 0, none⟩ = some (.int .i64 b) ∧ w'.cell? ⟨w.heap.size, 1, none⟩ = some (.int .i64 a) ∧ w'.cell? ⟨w.heap.size + 1, 0, none⟩ = some (.int .i64 t.first) ∧ w'.cell? ⟨w.heap.size + 1, 1, none⟩ = some (.slice A t.vals.length c) ∧ w'.cell? ⟨w.heap.size + 1, 2, none⟩ = some (.slice A' t.holes.length c')) (by kernel_rfl) ?_ (fun hHeld => ?_)
  · first | exact rfl | ((try dsimp only); ((repeat' apply And.intro) <;> first | go_keep | exact cell_ext (by go_keep) hbe | (refine Below.ext ?_ hbe; first | assumption | exact And.left (by assumption) | exact And.left (And.right (by assumption)) | (repeat (first | with_reducible exact Below.refl _ _ | with_reducible assumption | with_reducible exact And.left (by assumption) | with_reducible exact And.left (And.right (by assumption)) | with_reducible refine Below.setCell ?_ (by dsimp only; omega) _ | with_reducible refine Below.allocE ?_ _ | with_reducible refine Below.drew ?_ | exact Below.refl _ _ | assumption | exact And.left (by assumption) | exact And.left (And.right (by assumption)) | refine Below.drew ?_ | refine Below.allocE ?_ _ | refine Below.setCell ?_ (by dsimp only; omega) _))) | exact cell_ext (by go_keep) hbf | (refine Below.ext ?_ hbf; first | assumption | exact And.left (by assumption) | exact And.left (And.right (by assumption)) | (repeat (first | with_reducible exact Below.refl _ _ | with_reducible assumption | with_reducible exact And.left (by assumption) | with_reducible exact And.left (And.right (by assumption)) | with_reducible refine Below.setCell ?_ (by dsimp only; omega) _ | with_reducible refine Below.allocE ?_ _ | with_reducible refine Below.drew ?_ | exact Below.refl _ _ | assumption | exact And.left (by assumption) | exact And.left (And.right (by assumption)) | refine Below.drew ?_ | refine Below.allocE ?_ _ | refine Below.setCell ?_ (by dsimp only; omega) _))) | (repeat (first | with_reducible exact Below.refl _ _ | with_reducible assumption | with_reducible exact And.left (by assumption) | with_reducible exact And.left (And.right (by assumption)) | with_reducible refine Below.setCell ?_ (by dsimp only; omega) _ | with_reducible refine Below.allocE ?_ _ | with_reducible refine Below.drew ?_ | exact Below.refl _ _ | assumption | exact And.left (by assumption) | exact And.left (And.right (by assumption)) | refine Below.drew ?_ | refine Below.allocE ?_ _ | refine Below.setCell ?_ (by dsimp only; omega) _))))
  refine wpAnyH_take (i := 0) (oi := { dst := some 9, op := Op.load 34 (Operand.tmp 3), type := 34, pos := _, after := #[], guard := none }) (v := ?_) rfl (by kernel_rfl) (by kernel_rfl) (by kernel_rfl) (fun _ _ _ h => h) (Or.inl ⟨by rfl, ?_⟩) (by assumption) ?_
  rotate_left 1
  · (intro w hSw; (try dsimp only at hSw); go_simp; (try with_reducible rfl))
  (try simp only [Act.put, List.setIfInBounds_toArray, List.set_cons_zero, List.set_cons_succ])
  refine wpAnyH_take (i := 2) (oi := { dst := some 11, op := Op.move (Operand.tmp 1), type := 3, pos := _, after := #[], guard := none }) (v := ?_) rfl (by kernel_rfl) (by kernel_rfl) (by kernel_rfl) (fun _ _ _ h => h) (Or.inl ⟨by rfl, ?_⟩) (by assumption) ?_
  rotate_left 1
  · (intro w hSw; (try dsimp only at hSw); go_simp; (try with_reducible rfl))
  (try simp only [Act.put, List.setIfInBounds_toArray, List.set_cons_zero, List.set_cons_succ])
  refine wpAnyH_take (i := 4) (oi := { dst := some 13, op := Op.load 30 (Operand.tmp 5), type := 30, pos := _, after := #[], guard := none }) (v := ?_) rfl (by kernel_rfl) (by kernel_rfl) (by kernel_rfl) (fun _ _ _ h => h) (Or.inl ⟨by rfl, ?_⟩) (by assumption) ?_
  rotate_left 1
  · (intro w hSw; (try dsimp only at hSw); go_simp; (try with_reducible rfl))
  (try simp only [Act.put, List.setIfInBounds_toArray, List.set_cons_zero, List.set_cons_succ])
  refine wpAnyH_ready (rs := [1]) (by kernel_rfl) (by simp) ?_
  refine AllReadyH.cons (o := { dst := some 10, op := Op.call { callee := Callee.value (Operand.func 63), args := #[Operand.tmp 9], argTypes := #[34] }, type := 31, pos := _, after := #[{ on := 0, ground := Ground.data }], guard := none }) rfl (fun K hK => ?_) AllReadyH.nil
  (first | (first | (go_at_call 63; refine (CheckChord_c b a _).mono ?_; rintro e w' ⟨rfl, hbe⟩) | (go_at_call 64; refine (CheckTrace_c (.slice A t.vals.length c) (.slice A' t.holes.length c') t _ ((hb.below hbe).more hbe.size)).mono ?_; rintro e w' ⟨rfl, hbf⟩) | (go_at_call 81; refine (within_c _ _ _ _).mono ?_; rintro e w' ⟨rfl, rfl⟩) | (go_at_call 72; refine (first_c _ [?_, ?_, ?_] _ ?_).mono ?_; rotate_left 3; (refine Rd.fresh _ _ _ _ ?_ ?_ ?_ <;> simp); rintro e w' ⟨rfl, rfl⟩)) | (go_simp; (first | (go_at_call 63; refine (CheckChord_c b a _).mono ?_; rintro e w' ⟨rfl, hbe⟩) | (go_at_call 64; refine (CheckTrace_c (.slice A t.vals.length c) (.slice A' t.holes.length c') t _ ((hb.below hbe).more hbe.size)).mono ?_; rintro e w' ⟨rfl, hbf⟩) | (go_at_call 81; refine (within_c _ _ _ _).mono ?_; rintro e w' ⟨rfl, rfl⟩) | (go_at_call 72; refine (first_c _ [?_, ?_, ?_] _ ?_).mono ?_; rotate_left 3; (refine Rd.fresh _ _ _ _ ?_ ?_ ?_ <;> simp); rintro e w' ⟨rfl, rfl⟩))))
  refine hK.out _ _ ?_ (fun hNew => ?_)
  · (try dsimp only); ((repeat' apply And.intro) <;> first | go_keep | exact cell_ext (by go_keep) hbe | (refine Below.ext ?_ hbe; first | assumption | exact And.left (by assumption) | exact And.left (And.right (by assumption)) | (repeat (first | with_reducible exact Below.refl _ _ | with_reducible assumption | with_reducible exact And.left (by assumption) | with_reducible exact And.left (And.right (by assumption)) | with_reducible refine Below.setCell ?_ (by dsimp only; omega) _ | with_reducible refine Below.allocE ?_ _ | with_reducible refine Below.drew ?_ | exact Below.refl _ _ | assumption | exact And.left (by assumption) | exact And.left (And.right (by assumption)) | refine Below.drew ?_ | refine Below.allocE ?_ _ | refine Below.setCell ?_ (by dsimp only; omega) _))) | exact cell_ext (by go_keep) hbf | (refine Below.ext ?_ hbf; first | assumption | exact And.left (by assumption) | exact And.left (And.right (by assumption)) | (repeat (first | with_reducible exact Below.refl _ _ | with_reducible assumption | with_reducible exact And.left (by assumption) | with_reducible exact And.left (And.right (by assumption)) | with_reducible refine Below.setCell ?_ (by dsimp only; omega) _ | with_reducible refine Below.allocE ?_ _ | with_reducible refine Below.drew ?_ | exact Below.refl _ _ | assumption | exact And.left (by assumption) | exact And.left (And.right (by assumption)) | refine Below.drew ?_ | refine Below.allocE ?_ _ | refine Below.setCell ?_ (by dsimp only; omega) _))) | (repeat (first | with_reducible exact Below.refl _ _ | with_reducible assumption | with_reducible exact And.left (by assumption) | with_reducible exact And.left (And.right (by assumption)) | with_reducible refine Below.setCell ?_ (by dsimp only; omega) _ | with_reducible refine Below.allocE ?_ _ | with_reducible refine Below.drew ?_ | exact Below.refl _ _ | assumption | exact And.left (by assumption) | exact And.left (And.right (by assumption)) | refine Below.drew ?_ | refine Below.allocE ?_ _ | refine Below.setCell ?_ (by dsimp only; omega) _)))
  clear hK K
  have hHeld := hNew
  clear hNew
  (try dsimp only at hHeld)
  (try simp only [Act.put, List.setIfInBounds_toArray, List.set_cons_zero, List.set_cons_succ])
  refine wpAnyH_ready (rs := [3]) (by kernel_rfl) (by simp) ?_
  refine AllReadyH.cons (o := { dst := some 12, op := Op.call { callee := Callee.value (Operand.func 81), args := #[Operand.tmp 11, Operand.const (Value.int IntKind.i64 1), Operand.const (Value.int IntKind.i64 32)], argTypes := #[3, 3, 3] }, type := 31, pos := _, after := #[{ on := 2, ground := Ground.data }, { on := 1, ground := Ground.chain }], guard := none }) rfl (fun K hK => ?_) AllReadyH.nil
  (first | (first | (go_at_call 63; refine (CheckChord_c b a _).mono ?_; rintro e w' ⟨rfl, hbe⟩) | (go_at_call 64; refine (CheckTrace_c (.slice A t.vals.length c) (.slice A' t.holes.length c') t _ ((hb.below hbe).more hbe.size)).mono ?_; rintro e w' ⟨rfl, hbf⟩) | (go_at_call 81; refine (within_c _ _ _ _).mono ?_; rintro e w' ⟨rfl, rfl⟩) | (go_at_call 72; refine (first_c _ [?_, ?_, ?_] _ ?_).mono ?_; rotate_left 3; (refine Rd.fresh _ _ _ _ ?_ ?_ ?_ <;> simp); rintro e w' ⟨rfl, rfl⟩)) | (go_simp; (first | (go_at_call 63; refine (CheckChord_c b a _).mono ?_; rintro e w' ⟨rfl, hbe⟩) | (go_at_call 64; refine (CheckTrace_c (.slice A t.vals.length c) (.slice A' t.holes.length c') t _ ((hb.below hbe).more hbe.size)).mono ?_; rintro e w' ⟨rfl, hbf⟩) | (go_at_call 81; refine (within_c _ _ _ _).mono ?_; rintro e w' ⟨rfl, rfl⟩) | (go_at_call 72; refine (first_c _ [?_, ?_, ?_] _ ?_).mono ?_; rotate_left 3; (refine Rd.fresh _ _ _ _ ?_ ?_ ?_ <;> simp); rintro e w' ⟨rfl, rfl⟩))))
  refine hK.out _ _ ?_ (fun hNew => ?_)
  · (try dsimp only); ((repeat' apply And.intro) <;> first | go_keep | exact cell_ext (by go_keep) hbe | (refine Below.ext ?_ hbe; first | assumption | exact And.left (by assumption) | exact And.left (And.right (by assumption)) | (repeat (first | with_reducible exact Below.refl _ _ | with_reducible assumption | with_reducible exact And.left (by assumption) | with_reducible exact And.left (And.right (by assumption)) | with_reducible refine Below.setCell ?_ (by dsimp only; omega) _ | with_reducible refine Below.allocE ?_ _ | with_reducible refine Below.drew ?_ | exact Below.refl _ _ | assumption | exact And.left (by assumption) | exact And.left (And.right (by assumption)) | refine Below.drew ?_ | refine Below.allocE ?_ _ | refine Below.setCell ?_ (by dsimp only; omega) _))) | exact cell_ext (by go_keep) hbf | (refine Below.ext ?_ hbf; first | assumption | exact And.left (by assumption) | exact And.left (And.right (by assumption)) | (repeat (first | with_reducible exact Below.refl _ _ | with_reducible assumption | with_reducible exact And.left (by assumption) | with_reducible exact And.left (And.right (by assumption)) | with_reducible refine Below.setCell ?_ (by dsimp only; omega) _ | with_reducible refine Below.allocE ?_ _ | with_reducible refine Below.drew ?_ | exact Below.refl _ _ | assumption | exact And.left (by assumption) | exact And.left (And.right (by assumption)) | refine Below.drew ?_ | refine Below.allocE ?_ _ | refine Below.setCell ?_ (by dsimp only; omega) _))) | (repeat (first | with_reducible exact Below.refl _ _ | with_reducible assumption | with_reducible exact And.left (by assumption) | with_reducible exact And.left (And.right (by assumption)) | with_reducible refine Below.setCell ?_ (by dsimp only; omega) _ | with_reducible refine Below.allocE ?_ _ | with_reducible refine Below.drew ?_ | exact Below.refl _ _ | assumption | exact And.left (by assumption) | exact And.left (And.right (by assumption)) | refine Below.drew ?_ | refine Below.allocE ?_ _ | refine Below.setCell ?_ (by dsimp only; omega) _)))
  clear hK K
  have hHeld := hNew
  clear hNew
  (try dsimp only at hHeld)
  (try simp only [Act.put, List.setIfInBounds_toArray, List.set_cons_zero, List.set_cons_succ])
  refine wpAnyH_ready (rs := [5]) (by kernel_rfl) (by simp) ?_
  refine AllReadyH.cons (o := { dst := some 14, op := Op.call { callee := Callee.value (Operand.func 64), args := #[Operand.tmp 13], argTypes := #[30] }, type := 31, pos := _, after := #[{ on := 4, ground := Ground.data }, { on := 3, ground := Ground.chain }], guard := none }) rfl (fun K hK => ?_) AllReadyH.nil
  (first | (first | (go_at_call 63; refine (CheckChord_c b a _).mono ?_; rintro e w' ⟨rfl, hbe⟩) | (go_at_call 64; refine (CheckTrace_c (.slice A t.vals.length c) (.slice A' t.holes.length c') t _ ((hb.below hbe).more hbe.size)).mono ?_; rintro e w' ⟨rfl, hbf⟩) | (go_at_call 81; refine (within_c _ _ _ _).mono ?_; rintro e w' ⟨rfl, rfl⟩) | (go_at_call 72; refine (first_c _ [?_, ?_, ?_] _ ?_).mono ?_; rotate_left 3; (refine Rd.fresh _ _ _ _ ?_ ?_ ?_ <;> simp); rintro e w' ⟨rfl, rfl⟩)) | (go_simp; (first | (go_at_call 63; refine (CheckChord_c b a _).mono ?_; rintro e w' ⟨rfl, hbe⟩) | (go_at_call 64; refine (CheckTrace_c (.slice A t.vals.length c) (.slice A' t.holes.length c') t _ ((hb.below hbe).more hbe.size)).mono ?_; rintro e w' ⟨rfl, hbf⟩) | (go_at_call 81; refine (within_c _ _ _ _).mono ?_; rintro e w' ⟨rfl, rfl⟩) | (go_at_call 72; refine (first_c _ [?_, ?_, ?_] _ ?_).mono ?_; rotate_left 3; (refine Rd.fresh _ _ _ _ ?_ ?_ ?_ <;> simp); rintro e w' ⟨rfl, rfl⟩))))
  refine hK.out _ _ ?_ (fun hNew => ?_)
  · (try dsimp only); ((repeat' apply And.intro) <;> first | go_keep | exact cell_ext (by go_keep) hbe | (refine Below.ext ?_ hbe; first | assumption | exact And.left (by assumption) | exact And.left (And.right (by assumption)) | (repeat (first | with_reducible exact Below.refl _ _ | with_reducible assumption | with_reducible exact And.left (by assumption) | with_reducible exact And.left (And.right (by assumption)) | with_reducible refine Below.setCell ?_ (by dsimp only; omega) _ | with_reducible refine Below.allocE ?_ _ | with_reducible refine Below.drew ?_ | exact Below.refl _ _ | assumption | exact And.left (by assumption) | exact And.left (And.right (by assumption)) | refine Below.drew ?_ | refine Below.allocE ?_ _ | refine Below.setCell ?_ (by dsimp only; omega) _))) | exact cell_ext (by go_keep) hbf | (refine Below.ext ?_ hbf; first | assumption | exact And.left (by assumption) | exact And.left (And.right (by assumption)) | (repeat (first | with_reducible exact Below.refl _ _ | with_reducible assumption | with_reducible exact And.left (by assumption) | with_reducible exact And.left (And.right (by assumption)) | with_reducible refine Below.setCell ?_ (by dsimp only; omega) _ | with_reducible refine Below.allocE ?_ _ | with_reducible refine Below.drew ?_ | exact Below.refl _ _ | assumption | exact And.left (by assumption) | exact And.left (And.right (by assumption)) | refine Below.drew ?_ | refine Below.allocE ?_ _ | refine Below.setCell ?_ (by dsimp only; omega) _))) | (repeat (first | with_reducible exact Below.refl _ _ | with_reducible assumption | with_reducible exact And.left (by assumption) | with_reducible exact And.left (And.right (by assumption)) | with_reducible refine Below.setCell ?_ (by dsimp only; omega) _ | with_reducible refine Below.allocE ?_ _ | with_reducible refine Below.drew ?_ | exact Below.refl _ _ | assumption | exact And.left (by assumption) | exact And.left (And.right (by assumption)) | refine Below.drew ?_ | refine Below.allocE ?_ _ | refine Below.setCell ?_ (by dsimp only; omega) _)))
  clear hK K
  have hHeld := hNew
  clear hNew
  (try dsimp only at hHeld)
  (try simp only [Act.put, List.setIfInBounds_toArray, List.set_cons_zero, List.set_cons_succ])
  refine wpAnyH_ready (rs := [6]) (by kernel_rfl) (by simp) ?_
  refine AllReadyH.cons (o := { dst := some 15, op := Op.buildSlice 145 3 #[(0, Operand.tmp 10), (1, Operand.tmp 12), (2, Operand.tmp 14)], type := 145, pos := _, after := #[{ on := 1, ground := Ground.data }, { on := 3, ground := Ground.data }, { on := 5, ground := Ground.data }], guard := none }) rfl (fun K hK => ?_) AllReadyH.nil
  (first  | go_simp)
  refine hK.out _ _ ?_ (fun hNew => ?_)
  · (try dsimp only); ((repeat' apply And.intro) <;> first | go_keep | exact cell_ext (by go_keep) hbe | (refine Below.ext ?_ hbe; first | assumption | exact And.left (by assumption) | exact And.left (And.right (by assumption)) | (repeat (first | with_reducible exact Below.refl _ _ | with_reducible assumption | with_reducible exact And.left (by assumption) | with_reducible exact And.left (And.right (by assumption)) | with_reducible refine Below.setCell ?_ (by dsimp only; omega) _ | with_reducible refine Below.allocE ?_ _ | with_reducible refine Below.drew ?_ | exact Below.refl _ _ | assumption | exact And.left (by assumption) | exact And.left (And.right (by assumption)) | refine Below.drew ?_ | refine Below.allocE ?_ _ | refine Below.setCell ?_ (by dsimp only; omega) _))) | exact cell_ext (by go_keep) hbf | (refine Below.ext ?_ hbf; first | assumption | exact And.left (by assumption) | exact And.left (And.right (by assumption)) | (repeat (first | with_reducible exact Below.refl _ _ | with_reducible assumption | with_reducible exact And.left (by assumption) | with_reducible exact And.left (And.right (by assumption)) | with_reducible refine Below.setCell ?_ (by dsimp only; omega) _ | with_reducible refine Below.allocE ?_ _ | with_reducible refine Below.drew ?_ | exact Below.refl _ _ | assumption | exact And.left (by assumption) | exact And.left (And.right (by assumption)) | refine Below.drew ?_ | refine Below.allocE ?_ _ | refine Below.setCell ?_ (by dsimp only; omega) _))) | (repeat (first | with_reducible exact Below.refl _ _ | with_reducible assumption | with_reducible exact And.left (by assumption) | with_reducible exact And.left (And.right (by assumption)) | with_reducible refine Below.setCell ?_ (by dsimp only; omega) _ | with_reducible refine Below.allocE ?_ _ | with_reducible refine Below.drew ?_ | exact Below.refl _ _ | assumption | exact And.left (by assumption) | exact And.left (And.right (by assumption)) | refine Below.drew ?_ | refine Below.allocE ?_ _ | refine Below.setCell ?_ (by dsimp only; omega) _)))
  clear hK K
  have hHeld := hNew
  clear hNew
  (try dsimp only at hHeld)
  (try simp only [Act.put, List.setIfInBounds_toArray, List.set_cons_zero, List.set_cons_succ])
  refine wpAnyH_ready (rs := [7]) (by kernel_rfl) (by simp) ?_
  refine AllReadyH.cons (o := { dst := some 16, op := Op.call { callee := Callee.value (Operand.func 72), args := #[Operand.tmp 15], argTypes := #[145] }, type := 31, pos := _, after := #[{ on := 6, ground := Ground.data }, { on := 5, ground := Ground.chain }], guard := none }) rfl (fun K hK => ?_) AllReadyH.nil
  (first | (first | (go_at_call 63; refine (CheckChord_c b a _).mono ?_; rintro e w' ⟨rfl, hbe⟩) | (go_at_call 64; refine (CheckTrace_c (.slice A t.vals.length c) (.slice A' t.holes.length c') t _ ((hb.below hbe).more hbe.size)).mono ?_; rintro e w' ⟨rfl, hbf⟩) | (go_at_call 81; refine (within_c _ _ _ _).mono ?_; rintro e w' ⟨rfl, rfl⟩) | (go_at_call 72; refine (first_c _ [?_, ?_, ?_] _ ?_).mono ?_; rotate_left 3; (refine Rd.fresh _ _ _ _ ?_ ?_ ?_ <;> simp); rintro e w' ⟨rfl, rfl⟩)) | (go_simp; (first | (go_at_call 63; refine (CheckChord_c b a _).mono ?_; rintro e w' ⟨rfl, hbe⟩) | (go_at_call 64; refine (CheckTrace_c (.slice A t.vals.length c) (.slice A' t.holes.length c') t _ ((hb.below hbe).more hbe.size)).mono ?_; rintro e w' ⟨rfl, hbf⟩) | (go_at_call 81; refine (within_c _ _ _ _).mono ?_; rintro e w' ⟨rfl, rfl⟩) | (go_at_call 72; refine (first_c _ [?_, ?_, ?_] _ ?_).mono ?_; rotate_left 3; (refine Rd.fresh _ _ _ _ ?_ ?_ ?_ <;> simp); rintro e w' ⟨rfl, rfl⟩))))
  refine hK.out _ _ ?_ (fun hNew => ?_)
  · (try dsimp only); ((repeat' apply And.intro) <;> first | go_keep | exact cell_ext (by go_keep) hbe | (refine Below.ext ?_ hbe; first | assumption | exact And.left (by assumption) | exact And.left (And.right (by assumption)) | (repeat (first | with_reducible exact Below.refl _ _ | with_reducible assumption | with_reducible exact And.left (by assumption) | with_reducible exact And.left (And.right (by assumption)) | with_reducible refine Below.setCell ?_ (by dsimp only; omega) _ | with_reducible refine Below.allocE ?_ _ | with_reducible refine Below.drew ?_ | exact Below.refl _ _ | assumption | exact And.left (by assumption) | exact And.left (And.right (by assumption)) | refine Below.drew ?_ | refine Below.allocE ?_ _ | refine Below.setCell ?_ (by dsimp only; omega) _))) | exact cell_ext (by go_keep) hbf | (refine Below.ext ?_ hbf; first | assumption | exact And.left (by assumption) | exact And.left (And.right (by assumption)) | (repeat (first | with_reducible exact Below.refl _ _ | with_reducible assumption | with_reducible exact And.left (by assumption) | with_reducible exact And.left (And.right (by assumption)) | with_reducible refine Below.setCell ?_ (by dsimp only; omega) _ | with_reducible refine Below.allocE ?_ _ | with_reducible refine Below.drew ?_ | exact Below.refl _ _ | assumption | exact And.left (by assumption) | exact And.left (And.right (by assumption)) | refine Below.drew ?_ | refine Below.allocE ?_ _ | refine Below.setCell ?_ (by dsimp only; omega) _))) | (repeat (first | with_reducible exact Below.refl _ _ | with_reducible assumption | with_reducible exact And.left (by assumption) | with_reducible exact And.left (And.right (by assumption)) | with_reducible refine Below.setCell ?_ (by dsimp only; omega) _ | with_reducible refine Below.allocE ?_ _ | with_reducible refine Below.drew ?_ | exact Below.refl _ _ | assumption | exact And.left (by assumption) | exact And.left (And.right (by assumption)) | refine Below.drew ?_ | refine Below.allocE ?_ _ | refine Below.setCell ?_ (by dsimp only; omega) _)))
  clear hK K
  have hHeld := hNew
  clear hNew
  (try dsimp only at hHeld)
  (try simp only [Act.put, List.setIfInBounds_toArray, List.set_cons_zero, List.set_cons_succ])
  refine wpAnyH_take (i := 8) (oi := { dst := some 8, op := Op.assign (Operand.tmp 16), type := 31, pos := _, after := #[{ on := 7, ground := Ground.data }, { on := 7, ground := Ground.chain }, { on := 0, ground := Ground.phase }, { on := 1, ground := Ground.phase }, { on := 2, ground := Ground.phase }, { on := 3, ground := Ground.phase }, { on := 4, ground := Ground.phase }, { on := 5, ground := Ground.phase }, { on := 6, ground := Ground.phase }, { on := 7, ground := Ground.phase }], guard := none }) (v := ?_) rfl (by kernel_rfl) (by kernel_rfl) (by kernel_rfl) (fun _ _ _ h => h) (Or.inl ⟨by rfl, ?_⟩) (by assumption) ?_
  rotate_left 1
  · (intro w hSw; (try dsimp only at hSw); go_simp; (try with_reducible rfl))
  (try simp only [Act.put, List.setIfInBounds_toArray, List.set_cons_zero, List.set_cons_succ])
  refine wpAnyH_done (by kernel_rfl) ?_ _
  refine NoPanic.normal ?_
  have hX : Below W.drew.heap.size W.drew (w'.alloc (.cells #[.int .i64 (chordS b a), .int .i64 (withinS step 1 32), .int .i64 (traceS t)] 31)) := Below.allocE (Below.ext hbe hbf) _
  obtain ⟨hA, u0, u1, u2, u3, u4⟩ := hHeld
  clear hbe hbf
  generalize World.alloc w' _ = X at *
  have m3 := k3.drew.ext hX
  have hb2 := (hb.below hX).more hX.size
  by_cases he : firstS [chordS b a, withinS step 1 32, traceS t] = 0
  · have hok := he
    rw [firstS_eq] at hok
    have ok1 := chordS_ok (hok (chordS b a) (by simp))
    have ok3 := (withinS_eq step 1 32).1 (hok (withinS step 1 32) (by simp))
    have ok2 := traceS_ok (hok (traceS t) (by simp))
    clear hok
    go_wp2_with fail
    obtain ⟨T, hT⟩ : ∃ T, LengthenedS b a step t = T := ⟨_, rfl⟩
    have hT2 : lengthenedS b a step t = T := by rw [← hT]; unfold LengthenedS; rw [if_neg (by simpa using he)]
    have hs9 := hA.size
    refine (lengthened_c b a step (.slice A t.vals.length c) (.slice A' t.holes.length c') t _ ok1.1.1 ok1.1.2 ok1.2.1 ok1.2.2 ok3.1 ok3.2 hb2 ok2).mono ?_; rintro e w' ⟨rv, rh, rfl, hr, hf1, hf2, hbf⟩; rw [hT2] at hr ⊢; obtain ⟨RA, rc, rfl, hr1, hr2⟩ := hr.1.slice; obtain ⟨RB, rd, rfl, hr3, hr4⟩ := hr.2.slice; (try simp only [trv]); have m5 := (m3).ext hbf; have q0 := m5.c 0 _ rfl; have q1 := m5.c 1 _ rfl; have q2 := m5.c 2 _ rfl; have q3 := m5.frozen; have hAE : Below w.heap.size w w' := Below.ext hA hbf; have hltE := (m3).lt; go_wp2; have m9 := blk_trace m5 (.int .i64 T.1.first) (.slice RA T.1.vals.length rc) (.slice RB T.1.holes.length rd); have p0 := m9.c 0 _ rfl; have p1 := m9.c 1 _ rfl; have p2 := m9.c 2 _ rfl; clear q0 q1 q2 q3; (try simp only [Exit.inBlock, Exit.then]); refine bodyPost_ret (v := .tuple #[trv T.1.first (.slice RA T.1.vals.length rc) (.slice RB T.1.holes.length rd), .int .i64 T.2]) (by simp [results, Tryd.results26, go_sem, p0, p1, p2, trv]) rfl ?_; (try rw [hT]); exact tr_end (G := w.heap.size + 1 + 1) hr hf1 hf2 (by omega) (by omega) _ _ _ (by (repeat (first | with_reducible exact Below.refl _ _ | with_reducible assumption | with_reducible exact And.left (by assumption) | with_reducible exact And.left (And.right (by assumption)) | with_reducible refine Below.setCell ?_ (by dsimp only; omega) _ | with_reducible refine Below.allocE ?_ _ | with_reducible refine Below.drew ?_ | exact Below.refl _ _ | assumption | exact And.left (by assumption) | exact And.left (And.right (by assumption)) | refine Below.drew ?_ | refine Below.allocE ?_ _ | refine Below.setCell ?_ (by dsimp only; omega) _)))
  · have HE := Lib.hid he
    obtain ⟨e, hE⟩ : ∃ e, firstS [chordS b a, withinS step 1 32, traceS t] = e := ⟨_, rfl⟩
    rw [hE] at he ⊢
    have q0 := m3.c 0 _ rfl
    have q1 := m3.c 1 _ rfl
    have q2 := m3.c 2 _ rfl
    have q3 := m3.frozen
    go_wp2
    have m4 := blk_trace m3 (.int .i64 0) (.slice none 0 0) (.slice none 0 0)
    have p0 := m4.c 0 _ rfl
    have p1 := m4.c 1 _ rfl
    have p2 := m4.c 2 _ rfl
    clear q0 q1 q2 q3
    (try simp only [Exit.inBlock, Exit.then]); refine bodyPost_ret (v := .tuple #[trv 0 (.slice none 0 0) (.slice none 0 0), .int .i64 e]) (by simp [results, Tryd.results26, go_sem, p0, p1, p2, trv]) rfl ?_
    unfold LengthenedS
    rw [if_pos HE.out, hE]
    exact tr_none e (by (repeat (first | with_reducible exact Below.refl _ _ | with_reducible assumption | with_reducible exact And.left (by assumption) | with_reducible exact And.left (And.right (by assumption)) | with_reducible refine Below.setCell ?_ (by dsimp only; omega) _ | with_reducible refine Below.allocE ?_ _ | with_reducible refine Below.drew ?_ | exact Below.refl _ _ | assumption | exact And.left (by assumption) | exact And.left (And.right (by assumption)) | refine Below.drew ?_ | refine Below.allocE ?_ _ | refine Below.setCell ?_ (by dsimp only; omega) _)))

end Go.Proofs.YtbpffadffbgloaaDoor
