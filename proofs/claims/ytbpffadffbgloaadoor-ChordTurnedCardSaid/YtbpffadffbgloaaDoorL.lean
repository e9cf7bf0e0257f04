/- Contracts: window, Smoothed, Band. -/
import Derived.Test.YtbpffadffbgloaaDoorKd
set_option linter.unusedVariables false
set_option linter.unusedSimpArgs false
namespace Go.Proofs.YtbpffadffbgloaaDoor
open Go.RowKit Go.Shelf

set_option maxRecDepth 20000 in
set_option maxHeartbeats 1000000 in
theorem window_c (half factor : Int) (w : World) (h0 : 0 ≤ half) (h1 : half ≤ 1024) :
    Calls Tryd.prog 89 #[.int .i64 half, .int .i64 factor] w fun r w' => ∃ u, r = .returned u ∧
      w'.ownsRow w.heap.size 127 2 u (windowS half factor).length (terms (windowS half factor)) ∧ Below w.heap.size w w' := by
  obtain ⟨i0, hi, hz0, hz1, hz2⟩ := info_parts infoTerm
  have e1 : IntKind.i64.wrap (-half) = -half := IntWalk.i64_in _ (by omega)
  go_enter Tryd.func89, Tryd.ntmps89
  go_wp2
  go_loopw [5, 6] (fun o i wr => ∃ j : Nat, (j : Int) ≤ 2 * half + 1 ∧ i = .int .i64 (-half + j) ∧ wr.ownsRow w.heap.size 127 2 o j (terms ((upto (-half) j).map fun d => (factor, d))) ∧ Below w.heap.size w wr) (fun _ i _ => (half + 1 - intOf i).toNat)
  case atStart => exact ⟨0, by omega, by simp, World.ownsRow_nil _ _ _ _, Below.refl _ _⟩
  case round =>
    obtain ⟨j, hj, rfl, hown, hBw⟩ := hrel
    have hs1 := hBw.size
    obtain ⟨k, hkk⟩ : ∃ k : Int, -half + j = k := ⟨_, rfl⟩
    rw [hkk]
    by_cases hlt : k ≤ half
    · have g2 : IntKind.i64.wrap (k + 1) = k + 1 := IntWalk.i64_in _ (by omega)
      have e2 : terms ((upto (-half) (j + 1)).map fun d => (factor, d)) = terms ((upto (-half) j).map fun d => (factor, d)) ++ [.int .i64 factor, .int .i64 k] := by
        rw [upto_succ, List.map_append, hkk]; unfold terms; rw [spans_append]; simp [spans]
      have E2 := Lib.hid e2
      clear e2
      go_wp2_with (at_builtin; refine wpList_append_own _ rfl _ _ 124 rfl w.heap.size 127 i0 (.agg #[.int .i64 0, .int .i64 0]) 2 16 Tryd.underlying124 hi hz0 hz1 hz2 rfl (by decide) _ _ _ rfl (hown.alloc _) ⟨wr.heap.size, 0, none⟩ 1 1 [.int .i64 factor, .int .i64 k] rfl rfl (World.news_of_block (cs := #[.int .i64 factor, .int .i64 k]) (t := 127) (fr := (0, 0)) (by simpa using heap_alloc_new wr _)) (by simp [Value.oneCell']) (by unfold maxLen; omega) (by omega) (by simp; omega) ?_; intro v' w2 hown' hgrow _)
      have hB2 : Below w.heap.size w w2 := (hBw.alloc hBw.size _).grown hgrow (by simp; omega) (fun g hg => own_base hown hg)
      go_roundw
      case rel => exact ⟨j + 1, by omega, by push_cast; rw [← hkk]; congr 1; omega, by rw [E2.out]; exact hown', hB2⟩
      case measure => simp [intOf]; omega
    · go_wp2
      go_ret
      obtain rfl : j = (2 * half + 1).toNat := by omega
      exact ⟨_, rfl, by rw [windowS_len]; exact hown, hBw⟩

set_option maxRecDepth 20000 in
set_option maxHeartbeats 1000000 in
theorem Smoothed_c (half : Int) (vv hv : Value) (t : Tr) (w : World) (h : RdT w w.heap.size vv hv t) :
    Calls Tryd.prog 40 #[trv t.first vv hv, .int .i64 half] w (TrPost w (SmoothedS t half)) := by
  obtain ⟨A, c, rfl, h1, h2⟩ := h.1.slice
  obtain ⟨A', c', rfl, h1', h2'⟩ := h.2.slice
  unfold trv
  obtain ⟨W, hW⟩ : ∃ W, W = (w.alloc (.cells #[.int .i64 t.first, .slice A t.vals.length c, .slice A' t.holes.length c'] 30)).alloc (.cells #[.int .i64 0, .slice none 0 0, .slice none 0 0] 30) := ⟨_, rfl⟩
  obtain ⟨k1, k3, hB⟩ := alloc2 w #[.int .i64 t.first, .slice A t.vals.length c, .slice A' t.holes.length c'] #[.int .i64 0, .slice none 0 0, .slice none 0 0] 30 30
  rw [← hW] at k1 k3 hB
  have hlt := k3.lt
  have hs0 := hB.size
  have hb : RdT W W.heap.size (.slice A t.vals.length c) (.slice A' t.holes.length c') t := (h.below hB).more hB.size
  have n1 : w.heap.size ≠ w.heap.size + 1 := by omega
  have n3 := n1.symm
  go_enter Tryd.func40, Tryd.ntmps40
  go_wp2_with fail
  rw [← hW]
  clear hW
  refine (CheckTrace_c (.slice A t.vals.length c) (.slice A' t.holes.length c') t _ hb).mono ?_
  rintro e w' ⟨rfl, hbf⟩
  have hX : Below W.heap.size W (w'.alloc (.cells #[.int .i64 (traceS t), .int .i64 (withinS half 0 64)] 31)) := Below.allocE hbf _
  obtain ⟨X, hXd⟩ : ∃ X, X = w'.alloc (.cells #[.int .i64 (traceS t), .int .i64 (withinS half 0 64)] 31) := ⟨_, rfl⟩
  rw [← hXd] at hX
  have m3 := k3.ext hX
  have m1 := k1.ext hX
  have hb2 := (hb.below hX).more hX.size
  have hA : Below w.heap.size w X := Below.ext hB hX
  have d0 := (k1.ext hbf).c 0 _ rfl
  have d1 := (k1.ext hbf).c 1 _ rfl
  have d2 := (k1.ext hbf).c 2 _ rfl
  have hls := (k3.ext hbf).lt
  have hls2 : w.heap.size < w'.heap.size := by omega
  by_cases he : firstS [traceS t, withinS half 0 64] = 0
  · have hok := he
    rw [firstS_eq] at hok
    have ok3 := (withinS_eq half 0 64).1 (hok (withinS half 0 64) (by simp))
    have ok2 := traceS_ok (hok (traceS t) (by simp))
    clear hok
    have g1 : IntKind.i64.wrap (-half) = -half := IntWalk.i64_in _ (by omega)
    go_wp2_with (first | (go_at_call 81; refine (within_c _ _ _ _).mono ?_; rintro e w' ⟨rfl, rfl⟩) | (go_at_call 72; refine (first_c _ [?_, ?_] _ ?_).mono ?_; rotate_left 2; (refine Rd.fresh _ _ _ _ ?_ ?_ ?_ <;> simp); rintro e w' ⟨rfl, rfl⟩) | fail)
    rw [← hXd]
    clear hXd d0 d1 d2
    obtain ⟨T, hT⟩ : ∃ T, SmoothedS t half = T := ⟨_, rfl⟩
    have hT2 : foldedS t.first t.vals (knS t.vals.length t.holes) (windowS half 1) (-half) half = T := by rw [← hT]; unfold SmoothedS; rw [if_neg (by simpa using he)]; rfl
    have hwl := Lib.hid (windowS_len half 1)
    have hwo := windowS_ok (half := half) (factor := 1) (by omega) (by omega) (by omega) (by omega)
    refine (read_c (.slice A t.vals.length c) (.slice A' t.holes.length c') t _ hb2 ok2.len ok2.holes).mono ?_
    rintro e X1 ⟨g, rfl, hg, hbe⟩
    unfold rdv
    go_wp2_with fail
    refine (window_c half 1 _ (by omega) (by omega)).mono ?_
    rintro e X2 ⟨u, rfl, hu, hbw⟩
    obtain ⟨Au, cu, rfl, hu1, hu2⟩ := own_form hu
    have hkr : Rd X2 X2.heap.size 1 (.slice (some ⟨g, 0, none⟩) t.vals.length t.vals.length) (knS t.vals.length t.holes).length (bools (knS t.vals.length t.holes)) := by
      have := hg.rd (by have := ok2.len; simp [bools, knS_len]; omega)
      simpa [bools_len, knS_len] using (this.below hbw).more hbw.size
    have hs3 := hbe.size
    have hs4 := hbw.size
    have hs5 := hA.size
    have hs6 := hX.size
    go_wp2_with fail
    refine (folded_c t.first (-half) half (.slice A t.vals.length c) (.slice A' t.holes.length c') (.slice (some ⟨g, 0, none⟩) t.vals.length t.vals.length) (.slice Au (windowS half 1).length cu) t.vals (knS t.vals.length t.holes) (windowS half 1) _ ((((hb2.1.below hbe).more hbe.size).below hbw).more hbw.size) hkr (knS_len _ _) (Rd.of_own hu) ok2.f0 ok2.f1 ok2.len (by omega) (by omega) (by omega) (by omega) ok2.val (by rw [hwl.out]; omega) hwo).mono ?_; rintro e w' ⟨rv, rh, rfl, hr, hf1, hf2, hbf⟩; rw [hT2] at hr ⊢; obtain ⟨RA, rc, rfl, hr1, hr2⟩ := hr.1.slice; obtain ⟨RB, rd, rfl, hr3, hr4⟩ := hr.2.slice; (try simp only [trv]); have m5 := ((m3.ext hbe).ext hbw).ext hbf; have q0 := m5.c 0 _ rfl; have q1 := m5.c 1 _ rfl; have q2 := m5.c 2 _ rfl; have q3 := m5.frozen; have hAE : Below w.heap.size w w' := Below.ext (Below.ext (Below.ext hA hbe) hbw) hbf; have hltE := ((m3.ext hbe).ext hbw).lt; go_wp2; have m9 := blk_trace m5 (.int .i64 T.1.first) (.slice RA T.1.vals.length rc) (.slice RB T.1.holes.length rd); have p0 := m9.c 0 _ rfl; have p1 := m9.c 1 _ rfl; have p2 := m9.c 2 _ rfl; clear q0 q1 q2 q3; (try simp only [Exit.inBlock, Exit.then]); refine bodyPost_ret (v := .tuple #[trv T.1.first (.slice RA T.1.vals.length rc) (.slice RB T.1.holes.length rd), .int .i64 T.2]) (by simp [results, Tryd.results40, go_sem, p0, p1, p2, trv]) rfl ?_; (try rw [hT]); exact tr_end (G := w.heap.size + 1) hr hf1 hf2 (by omega) (by omega) _ _ _ (by (repeat (first | with_reducible exact Below.refl _ _ | with_reducible assumption | with_reducible exact And.left (by assumption) | with_reducible exact And.left (And.right (by assumption)) | with_reducible refine Below.setCell ?_ (by dsimp only; omega) _ | with_reducible refine Below.allocE ?_ _ | with_reducible refine Below.drew ?_ | exact Below.refl _ _ | assumption | exact And.left (by assumption) | exact And.left (And.right (by assumption)) | refine Below.drew ?_ | refine Below.allocE ?_ _ | refine Below.setCell ?_ (by dsimp only; omega) _)))
  · have HE := Lib.hid he
    obtain ⟨e, hE⟩ : ∃ e, firstS [traceS t, withinS half 0 64] = e := ⟨_, rfl⟩
    have q4 := k3.ext hbf
    have q0 := q4.c 0 _ rfl
    have q1 := q4.c 1 _ rfl
    have q2 := q4.c 2 _ rfl
    have q3 := q4.frozen
    have he' : ¬ (0 : Int) = e := by rw [← hE]; exact fun h => he h.symm
    go_wp2_with (first | (go_at_call 81; refine (within_c _ _ _ _).mono ?_; rintro e w' ⟨rfl, rfl⟩) | ((go_at_call 72; refine (first_c _ [?_, ?_] _ ?_).mono ?_; rotate_left 2; (refine Rd.fresh _ _ _ _ ?_ ?_ ?_ <;> simp); rintro e w' ⟨rfl, rfl⟩); rw [hE]) | fail)
    have hAw : Below w.heap.size w w' := Below.ext hB hbf
    have m4 := (blk_trace q4 (.int .i64 0) (.slice none 0 0) (.slice none 0 0)).alloc (.cells #[.int .i64 (traceS t), .int .i64 (withinS half 0 64)] 31)
    have p0 := m4.c 0 _ rfl
    have p1 := m4.c 1 _ rfl
    have p2 := m4.c 2 _ rfl
    clear q0 q1 q2 q3
    (try simp only [Exit.inBlock, Exit.then]); refine bodyPost_ret (v := .tuple #[trv 0 (.slice none 0 0) (.slice none 0 0), .int .i64 e]) (by simp [results, Tryd.results40, go_sem, p0, p1, p2, trv]) rfl ?_
    unfold SmoothedS
    rw [if_pos HE.out, hE]
    exact tr_none e (by (repeat (first | with_reducible exact Below.refl _ _ | with_reducible assumption | with_reducible exact And.left (by assumption) | with_reducible exact And.left (And.right (by assumption)) | with_reducible refine Below.setCell ?_ (by dsimp only; omega) _ | with_reducible refine Below.allocE ?_ _ | with_reducible refine Below.drew ?_ | exact Below.refl _ _ | assumption | exact And.left (by assumption) | exact And.left (And.right (by assumption)) | refine Below.drew ?_ | refine Below.allocE ?_ _ | refine Below.setCell ?_ (by dsimp only; omega) _)))


set_option maxRecDepth 20000 in
set_option maxHeartbeats 1000000 in
theorem Band_c (short long : Int) (vv hv : Value) (t : Tr) (w : World) (h : RdT w w.heap.size vv hv t) :
    Calls Tryd.prog 41 #[trv t.first vv hv, .int .i64 short, .int .i64 long] w (TrPost w (BandS t short long)) := by
  obtain ⟨A, c, rfl, h1, h2⟩ := h.1.slice
  obtain ⟨A', c', rfl, h1', h2'⟩ := h.2.slice
  unfold trv
  obtain ⟨W, hW⟩ : ∃ W, W = (w.alloc (.cells #[.int .i64 t.first, .slice A t.vals.length c, .slice A' t.holes.length c'] 30)).alloc (.cells #[.int .i64 0, .slice none 0 0, .slice none 0 0] 30) := ⟨_, rfl⟩
  obtain ⟨k1, k3, hB⟩ := alloc2 w #[.int .i64 t.first, .slice A t.vals.length c, .slice A' t.holes.length c'] #[.int .i64 0, .slice none 0 0, .slice none 0 0] 30 30
  rw [← hW] at k1 k3 hB
  have hlt := k3.lt
  have hs0 := hB.size
  have hb : RdT W W.heap.size (.slice A t.vals.length c) (.slice A' t.holes.length c') t := (h.below hB).more hB.size
  have n1 : w.heap.size ≠ w.heap.size + 1 := by omega
  have n3 := n1.symm
  go_enter Tryd.func41, Tryd.ntmps41
  go_wp2_with fail
  rw [← hW]
  clear hW
  refine (CheckTrace_c (.slice A t.vals.length c) (.slice A' t.holes.length c') t _ hb).mono ?_
  rintro e w' ⟨rfl, hbf⟩
  have hX : Below W.heap.size W (w'.alloc (.cells #[.int .i64 (traceS t), .int .i64 (withinS short 0 64), .int .i64 (withinS long 0 64), .int .i64 (whenS (decide (long ≤ short)) 11)] 31)) := Below.allocE hbf _
  obtain ⟨X, hXd⟩ : ∃ X, X = w'.alloc (.cells #[.int .i64 (traceS t), .int .i64 (withinS short 0 64), .int .i64 (withinS long 0 64), .int .i64 (whenS (decide (long ≤ short)) 11)] 31) := ⟨_, rfl⟩
  rw [← hXd] at hX
  have m3 := k3.ext hX
  have m1 := k1.ext hX
  have hb2 := (hb.below hX).more hX.size
  have hA : Below w.heap.size w X := Below.ext hB hX
  have d0 := (k1.ext hbf).c 0 _ rfl
  have d1 := (k1.ext hbf).c 1 _ rfl
  have d2 := (k1.ext hbf).c 2 _ rfl
  have hls := (k3.ext hbf).lt
  have hls2 : w.heap.size < w'.heap.size := by omega
  by_cases he : firstS [traceS t, withinS short 0 64, withinS long 0 64, whenS (decide (long ≤ short)) 11] = 0
  · have hok := he
    rw [firstS_eq] at hok
    have ok3 := (withinS_eq short 0 64).1 (hok (withinS short 0 64) (by simp))
    have ok4 := (withinS_eq long 0 64).1 (hok (withinS long 0 64) (by simp))
    have ok5 := (whenS_eq (decide (long ≤ short)) 11 (by decide)).1 (hok (whenS (decide (long ≤ short)) 11) (by simp))
    have ok2 := traceS_ok (hok (traceS t) (by simp))
    rw [decide_eq_false_iff_not] at ok5
    have OK5 := Lib.hid ok5
    clear hok ok5
    have g1 : IntKind.i64.wrap (-long) = -long := IntWalk.i64_in _ (by omega)
    have g2 : IntKind.i64.wrap (2 * short) = 2 * short := IntWalk.i64_in _ (by omega)
    have g3 : IntKind.i64.wrap (2 * short + 1) = 2 * short + 1 := IntWalk.i64_in _ (by omega)
    have g4 : IntKind.i64.wrap (-(2 * short + 1)) = -(2 * short + 1) := IntWalk.i64_in _ (by omega)
    have g5 : IntKind.i64.wrap (2 * long) = 2 * long := IntWalk.i64_in _ (by omega)
    have g6 : IntKind.i64.wrap (2 * long + 1) = 2 * long + 1 := IntWalk.i64_in _ (by omega)
    go_wp2_with (first | (go_at_call 81; refine (within_c _ _ _ _).mono ?_; rintro e w' ⟨rfl, rfl⟩) | (go_at_call 90; refine (when_c _ _ _).mono ?_; rintro e w' ⟨rfl, rfl⟩) | (go_at_call 72; refine (first_c _ [?_, ?_, ?_, ?_] _ ?_).mono ?_; rotate_left 4; (refine Rd.fresh _ _ _ _ ?_ ?_ ?_ <;> simp); rintro e w' ⟨rfl, rfl⟩) | fail)
    rw [← hXd]
    clear hXd d0 d1 d2
    obtain ⟨T, hT⟩ : ∃ T, BandS t short long = T := ⟨_, rfl⟩
    obtain ⟨L1, hL1⟩ : ∃ L1, windowS long (-(2 * short + 1)) = L1 := ⟨_, rfl⟩
    obtain ⟨L2, hL2⟩ : ∃ L2, windowS short (2 * long + 1) = L2 := ⟨_, rfl⟩
    have hT2 : foldedS t.first t.vals (knS t.vals.length t.holes) (L1 ++ L2) (-long) long = T := by rw [← hT, ← hL1, ← hL2]; unfold BandS; rw [if_neg (by simpa using he)]; rfl
    have hw1 := Lib.hid (windowS_len long (-(2 * short + 1)))
    have hw2 := Lib.hid (windowS_len short (2 * long + 1))
    have ho1 := windowS_ok (half := long) (factor := -(2 * short + 1)) (by omega) (by omega) (by omega) (by omega)
    have ho2 := windowS_ok (half := short) (factor := 2 * long + 1) (by omega) (by omega) (by omega) (by omega)
    rw [hL1] at hw1 ho1
    rw [hL2] at hw2 ho2
    obtain ⟨i0, hi, hz0, hz1, hz2⟩ := info_parts infoTerm
    refine (window_c long (-(2 * short + 1)) _ (by omega) (by omega)).mono ?_
    rintro e X1 ⟨u, rfl, hu, hbw⟩
    rw [hL1] at hu
    go_wp2_with fail
    refine (window_c short (2 * long + 1) _ (by omega) (by omega)).mono ?_
    rintro e X2 ⟨v, rfl, hv, hbv⟩
    rw [hL2] at hv
    have hl2 : ∃ m, L2.length = m + 1 := ⟨(2 * short).toNat, by have := hw2.out; omega⟩
    obtain ⟨m, hm⟩ := hl2
    rw [hm] at hv
    obtain ⟨gv, cv, rfl⟩ := own_succ hv
    have hu2 := own_ext hu hbv
    have HU2 := Lib.hid hu2
    have HV := Lib.hid hv
    have hs1 := hbw.size
    have hs2 := hbv.size
    have hll : L1.length ≤ 200 := by have := hw1.out; omega
    have hml : m ≤ 200 := by have := hw2.out; omega
    obtain ⟨nn, hnn⟩ : ∃ nn, L1.length + (m + 1) = nn := ⟨_, rfl⟩
    have HNN := Lib.hid hnn
    clear hnn
    clear hu hu2 hv
    have hone : ∀ u ∈ terms L2, u.oneCell' = true := by
      intro u hu
      unfold terms spans at hu
      simp only [List.mem_flatMap, List.mem_cons, List.not_mem_nil, or_false] at hu
      obtain ⟨p, _, rfl | rfl⟩ := hu <;> rfl
    go_wp2_with (first | (at_builtin; refine wpList_append_own _ rfl _ _ 124 rfl X.heap.size 127 i0 (.agg #[.int .i64 0, .int .i64 0]) 2 16 Tryd.underlying124 hi hz0 hz1 hz2 rfl (by decide) u L1.length (terms L1) rfl HU2.out ⟨gv, 0, none⟩ (m + 1) cv (terms L2) rfl (by rw [← hm]; exact spans_len L2) (fun j u hu => by have e1 : (⟨gv, 0, none⟩ : Addr).add j = ⟨gv, j, none⟩ := (by unfold Addr.add; split <;> simp_all); rw [e1]; exact (own_cell HV.out hu).1) hone (by unfold maxLen; omega) (by omega) (by omega) ?_; intro v' X3 hown hgrow _; rw [HNN.out] at hown; have hB3 : Below X.heap.size X X3 := (Below.ext hbw hbv).grown hgrow (by omega) (fun g hg => own_base HU2.out hg); have r1 := m1.ext hB3; have c0 := r1.c 0 _ rfl; have c1 := r1.c 1 _ rfl; have c2 := r1.c 2 _ rfl; clear r1; obtain ⟨Av, cv', rfl, hv1, hv2⟩ := own_form hown; have HO := Lib.hid hown; clear hown) | fail)
    refine (read_c (.slice A t.vals.length c) (.slice A' t.holes.length c') t _ ((hb2.below hB3).more hB3.size) ok2.len ok2.holes).mono ?_
    rintro e X4 ⟨g, rfl, hg, hbe⟩
    unfold rdv
    have hll2 : (L1 ++ L2).length = nn := by rw [List.length_append, hm, HNN.out]
    have hro : Rd X4 X4.heap.size 2 (.slice Av nn cv') (L1 ++ L2).length (terms (L1 ++ L2)) := by
      rw [hll2]
      have := Rd.of_own (own_ext HO.out hbe)
      unfold terms at this ⊢
      rw [spans_append]
      exact this
    have hkr : Rd X4 X4.heap.size 1 (.slice (some ⟨g, 0, none⟩) t.vals.length t.vals.length) (knS t.vals.length t.holes).length (bools (knS t.vals.length t.holes)) := by
      have := hg.rd (by have := ok2.len; simp [bools, knS_len]; omega)
      simpa [bools_len, knS_len] using this
    have hb4 := (((hb2.1.below hB3).more hB3.size).below hbe).more hbe.size
    have hs3 := hbe.size
    have hs4 := hB3.size
    have hs5 := hA.size
    have hs6 := hX.size
    have hln : (L1 ++ L2).length ≤ 4096 := by rw [hll2, ← HNN.out]; omega
    have hbnd : ∀ x ∈ L1 ++ L2, (-100000 ≤ x.1 ∧ x.1 ≤ 100000) ∧ (-100000 ≤ x.2 ∧ x.2 ≤ 100000) := fun x hx => (List.mem_append.1 hx).elim (ho1 x) (ho2 x)
    have HRO := Lib.hid hro
    have HL2 := Lib.hid hll2
    clear hro hll2 ho1 ho2 c0 c1 c2
    go_wp2_with fail
    refine (folded_c t.first (-long) long (.slice A t.vals.length c) (.slice A' t.holes.length c') (.slice (some ⟨g, 0, none⟩) t.vals.length t.vals.length) (.slice Av nn cv') t.vals (knS t.vals.length t.holes) (L1 ++ L2) _ hb4 hkr (knS_len _ _) HRO.out ok2.f0 ok2.f1 ok2.len (by omega) (by omega) (by omega) (by omega) ok2.val hln hbnd).mono ?_; rintro e w' ⟨rv, rh, rfl, hr, hf1, hf2, hbf⟩; rw [hT2] at hr ⊢; obtain ⟨RA, rc, rfl, hr1, hr2⟩ := hr.1.slice; obtain ⟨RB, rd, rfl, hr3, hr4⟩ := hr.2.slice; (try simp only [trv]); have m5 := ((m3.ext hB3).ext hbe).ext hbf; have q0 := m5.c 0 _ rfl; have q1 := m5.c 1 _ rfl; have q2 := m5.c 2 _ rfl; have q3 := m5.frozen; have hAE : Below w.heap.size w w' := Below.ext (Below.ext (Below.ext hA hB3) hbe) hbf; have hltE := ((m3.ext hB3).ext hbe).lt; go_wp2; have m9 := blk_trace m5 (.int .i64 T.1.first) (.slice RA T.1.vals.length rc) (.slice RB T.1.holes.length rd); have p0 := m9.c 0 _ rfl; have p1 := m9.c 1 _ rfl; have p2 := m9.c 2 _ rfl; clear q0 q1 q2 q3; (try simp only [Exit.inBlock, Exit.then]); refine bodyPost_ret (v := .tuple #[trv T.1.first (.slice RA T.1.vals.length rc) (.slice RB T.1.holes.length rd), .int .i64 T.2]) (by simp [results, Tryd.results41, go_sem, p0, p1, p2, trv]) rfl ?_; (try rw [hT]); exact tr_end (G := w.heap.size + 1) hr hf1 hf2 (by omega) (by omega) _ _ _ (by (repeat (first | with_reducible exact Below.refl _ _ | with_reducible assumption | with_reducible exact And.left (by assumption) | with_reducible exact And.left (And.right (by assumption)) | with_reducible refine Below.setCell ?_ (by dsimp only; omega) _ | with_reducible refine Below.allocE ?_ _ | with_reducible refine Below.drew ?_ | exact Below.refl _ _ | assumption | exact And.left (by assumption) | exact And.left (And.right (by assumption)) | refine Below.drew ?_ | refine Below.allocE ?_ _ | refine Below.setCell ?_ (by dsimp only; omega) _)))
  · have HE := Lib.hid he
    obtain ⟨e, hE⟩ : ∃ e, firstS [traceS t, withinS short 0 64, withinS long 0 64, whenS (decide (long ≤ short)) 11] = e := ⟨_, rfl⟩
    have q4 := k3.ext hbf
    have q0 := q4.c 0 _ rfl
    have q1 := q4.c 1 _ rfl
    have q2 := q4.c 2 _ rfl
    have q3 := q4.frozen
    have he' : ¬ (0 : Int) = e := by rw [← hE]; exact fun h => he h.symm
    go_wp2_with (first | (go_at_call 81; refine (within_c _ _ _ _).mono ?_; rintro e w' ⟨rfl, rfl⟩) | (go_at_call 90; refine (when_c _ _ _).mono ?_; rintro e w' ⟨rfl, rfl⟩) | ((go_at_call 72; refine (first_c _ [?_, ?_, ?_, ?_] _ ?_).mono ?_; rotate_left 4; (refine Rd.fresh _ _ _ _ ?_ ?_ ?_ <;> simp); rintro e w' ⟨rfl, rfl⟩); rw [hE]) | fail)
    have hAw : Below w.heap.size w w' := Below.ext hB hbf
    have m4 := (blk_trace q4 (.int .i64 0) (.slice none 0 0) (.slice none 0 0)).alloc (.cells #[.int .i64 (traceS t), .int .i64 (withinS short 0 64), .int .i64 (withinS long 0 64), .int .i64 (whenS (decide (long ≤ short)) 11)] 31)
    have p0 := m4.c 0 _ rfl
    have p1 := m4.c 1 _ rfl
    have p2 := m4.c 2 _ rfl
    clear q0 q1 q2 q3
    (try simp only [Exit.inBlock, Exit.then]); refine bodyPost_ret (v := .tuple #[trv 0 (.slice none 0 0) (.slice none 0 0), .int .i64 e]) (by simp [results, Tryd.results41, go_sem, p0, p1, p2, trv]) rfl ?_
    unfold BandS
    rw [if_pos HE.out, hE]
    exact tr_none e (by (repeat (first | with_reducible exact Below.refl _ _ | with_reducible assumption | with_reducible exact And.left (by assumption) | with_reducible exact And.left (And.right (by assumption)) | with_reducible refine Below.setCell ?_ (by dsimp only; omega) _ | with_reducible refine Below.allocE ?_ _ | with_reducible refine Below.drew ?_ | exact Below.refl _ _ | assumption | exact And.left (by assumption) | exact And.left (And.right (by assumption)) | refine Below.drew ?_ | refine Below.allocE ?_ _ | refine Below.setCell ?_ (by dsimp only; omega) _)))


end Go.Proofs.YtbpffadffbgloaaDoor
