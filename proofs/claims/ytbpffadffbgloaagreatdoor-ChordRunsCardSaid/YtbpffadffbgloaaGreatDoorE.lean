/- Contract: Trace.add. -/
import Derived.Test.YtbpffadffbgloaaGreatDoorB
set_option linter.unusedVariables false
set_option linter.unusedSimpArgs false
namespace Go.Proofs.YtbpffadffbgloaaGreatDoor
open Go.RowKit

theorem infoInt : (Tryz.prog.info? 3).map (fun i => (i.zero, i.size, i.bytes)) = some (some (.int .i64 0), 1, 8) := by kernel_rfl
theorem infoSpan : (Tryz.prog.info? 102).map (fun i => (i.zero, i.size, i.bytes)) = some (some (.agg #[.int .i64 0, .int .i64 0]), 2, 16) := by kernel_rfl

/-- Block g is a trace of the call's own: its lists lie in rows from base on. -/
def OutAt (w : World) (base g : Nat) (f : Int) (l : List Int) (hs : List (Int × Int)) (vv hv : Value) : Prop :=
  Blk w g 29 #[.int .i64 f, vv, hv] ∧ w.ownsRow base 3 1 vv l.length (ints l) ∧ w.ownsRow base 102 2 hv hs.length (spans hs) ∧ base ≤ w.heap.size
/-- The blocks that 'add' may write. -/
def outSet (g : Nat) (vv hv : Value) (k : Nat) : Prop := k = g ∨ vv.ownBlock = some k ∨ hv.ownBlock = some k
def holesAdd (hs : List (Int × Int)) (i : Nat) : List (Int × Int) :=
  match hs.getLast? with
  | some p => if p.2 = i then hs.dropLast ++ [(p.1, p.2 + 1)] else hs ++ [((i : Int), (i : Int) + 1)]
  | none => [((i : Int), (i : Int) + 1)]
def AddPost (w : World) (base g : Nat) (f : Int) (l : List Int) (hs : List (Int × Int)) (vv hv : Value) (r : Ending) (w' : World) : Prop :=
  r = .returned (.tuple #[]) ∧ ∃ vv' hv', OutAt w' base g f l hs vv' hv' ∧ Touch (outSet g vv hv) w w'

set_option maxRecDepth 100000 in
theorem add_known (g base : Nat) (f n : Int) (l : List Int) (hs : List (Int × Int)) (vv hv : Value) (w : World) (h : OutAt w base g f l hs vv hv) (hl : l.length ≤ 1048576) :
    Calls Tryz.prog 78 #[.pointer (some ⟨g, 0, none⟩), .int .i64 n, .bool true] w (AddPost w base g f (l ++ [n]) hs vv hv) := by
  obtain ⟨hg, hv1, hv2, hbg⟩ := h
  obtain ⟨i0, hi, hz0, hz1, hz2⟩ := info_parts infoInt
  have hlt := hg.lt
  have c1 := hg.c 1 _ rfl
  have hne := own_ne_blk hv1 hg (by decide)
  have hdis := own_ne_own hv2 hv1 (by decide)
  have Hdis := Lib.hid hdis
  have Hg := Lib.hid hg
  clear hg hdis
  go_enter Tryz.func78, Tryz.ntmps78
  go_wp2_with (at_builtin; refine wpList_append_own _ rfl _ _ 22 rfl base 3 i0 (.int .i64 0) 1 8 Tryz.underlying22 hi hz0 hz1 hz2 rfl (by decide) _ _ _ rfl (hv1.alloc _) ⟨w.heap.size, 0, none⟩ 1 1 [.int .i64 n] rfl rfl (cell_one_new _ _ _) (by simp [Value.oneCell']) (by unfold maxLen; omega) (by omega) (by simp; omega) ?_; intro v' w1 hown hgrow _; obtain ⟨g', cap', rfl⟩ := own_succ hown; have hg1 := (Hg.out.alloc _).grown hgrow hne.symm; have d1 := hg1.c 1 _ rfl; have fr1 := hg1.frozen 1; have Hg1 := Lib.hid hg1; clear hg1)
  go_end0
  have hne' := own_ne_blk hown Hg1.out (by decide)
  have hv2' := (hv2.alloc _).kept hgrow Hdis.out
  refine ⟨rfl, _, hv, ⟨Hg1.out.set_ 1 _, ?_, ?_, by have := hgrow.size; simp at this; simp; omega⟩, ?_⟩
  · rw [ints_snoc, List.length_append]
    exact own_setCell hown hne' _
  · exact own_setCell hv2' (own_ne_blk hv2' Hg1.out (by decide)) _
  · exact ((Touch.alloc _ _).trans (Touch.grown hgrow fun k hk => .inr (.inl hk))).trans (Touch.setCell (.inl rfl) _)

set_option maxRecDepth 100000 in
theorem add_merge (g base : Nat) (f n a : Int) (l : List Int) (hs : List (Int × Int)) (vv hv : Value) (w : World) (h : OutAt w base g f l (hs ++ [(a, (l.length : Int))]) vv hv) (hl : l.length ≤ 1048576) (hl2 : hs.length ≤ 1048576) :
    Calls Tryz.prog 78 #[.pointer (some ⟨g, 0, none⟩), .int .i64 n, .bool false] w (AddPost w base g f (l ++ [0]) (hs ++ [(a, (l.length : Int) + 1)]) vv hv) := by
  obtain ⟨hg, hv1, hv2, hbg⟩ := h
  obtain ⟨i0, hi, hz0, hz1, hz2⟩ := info_parts infoInt
  obtain ⟨A, c, rfl, ha1, ha2⟩ := own_form hv1
  have hlt := hg.lt
  have c1 := hg.c 1 _ rfl
  have hne := own_ne_blk hv1 hg (by decide)
  have hdis := own_ne_own hv2 hv1 (by decide)
  have Hdis := Lib.hid hdis
  have Hg := Lib.hid hg
  clear hg hdis
  rw [List.length_append] at hv2
  obtain ⟨h0, ch, rfl⟩ := own_succ hv2
  have hn2 : h0 ≠ g := by simpa [Value.ownBlock] using own_ne_blk hv2 Hg.out (by decide)
  have exs : (spans (hs ++ [(a, (l.length : Int))]))[hs.length * 2 + 1]? = some (.int .i64 l.length) := by
    rw [spans_append, List.getElem?_append_right (by rw [spans_len]; omega), spans_len]
    simp [spans]
  have Exs := Lib.hid exs
  clear exs
  go_enter Tryz.func78, Tryz.ntmps78
  go_wp2_with (at_builtin; refine wpList_append_own _ rfl (.tmp 28) (.tmp 29) 22 rfl base 3 i0 (.int .i64 0) 1 8 Tryz.underlying22 hi hz0 hz1 hz2 rfl (by decide) _ _ _ rfl (hv1.alloc _) ⟨w.heap.size, 0, none⟩ 1 1 [.int .i64 0] rfl rfl (cell_one_new _ _ _) (by simp [Value.oneCell']) (by unfold maxLen; omega) (by omega) (by simp; omega) ?_; intro v' w1 hown hgrow _; obtain ⟨g', cap', rfl⟩ := own_succ hown; have hg1 := (Hg.out.alloc _).grown hgrow hne.symm; have d1 := hg1.c 1 _ rfl; have d2 := hg1.c 2 _ rfl; have fr1 := hg1.frozen 1; have fr2 := hg1.frozen 2; have Hg1 := Lib.hid hg1; clear hg1; have hv2' := (hv2.alloc _).kept hgrow Hdis.out; obtain ⟨e1, e2⟩ := own_cell hv2' Exs.out; have Hv2' := Lib.hid hv2'; clear hv2')
  go_end0
  have hne' := own_ne_blk hown Hg1.out (by decide)
  have g0 : g' ≠ g := by simpa [Value.ownBlock] using hne'
  have hh2 := own_setCell (Hv2'.out) (a := ⟨g, 1, none⟩) (by simpa [Value.ownBlock] using hn2) (.slice (some ⟨g', 0, none⟩) (l.length + 1) cap')
  have hh3 := own_put hh2 (hs.length * 2 + 1) (by omega) (.int .i64 ((l.length : Int) + 1))
  have hgh : g' ≠ h0 := by
    have := own_ne_own hown Hv2'.out (by decide)
    simpa [Value.ownBlock] using this
  refine ⟨rfl, _, _, ⟨(Hg1.out.set_ 1 _).far (p := ⟨h0, _, none⟩) (Ne.symm hn2) _, ?_, ?_, by have := hgrow.size; simp at this; simp; omega⟩, ?_⟩
  · rw [ints_snoc, List.length_append]
    exact own_setCell (own_setCell hown hne' _) (by simpa [Value.ownBlock] using hgh) _
  · have e : spans (hs ++ [(a, (l.length : Int) + 1)]) = (spans (hs ++ [(a, (l.length : Int))])).set (hs.length * 2 + 1) (.int .i64 ((l.length : Int) + 1)) := by
      rw [spans_append, spans_append, List.set_append_right _ _ (by rw [spans_len]; omega), spans_len]
      simp [spans]
    rw [e, List.length_append]
    exact hh3
  · refine (((Touch.alloc _ _).trans (Touch.grown hgrow fun k hk => .inr (.inl hk))).trans (Touch.setCell (.inl rfl) _)).trans (Touch.setCell (.inr (.inr rfl)) _)

set_option maxRecDepth 100000 in
theorem add_nil (g base : Nat) (f n : Int) (l : List Int) (vv hv : Value) (w : World) (h : OutAt w base g f l [] vv hv) (hl : l.length ≤ 1048576) :
    Calls Tryz.prog 78 #[.pointer (some ⟨g, 0, none⟩), .int .i64 n, .bool false] w (AddPost w base g f (l ++ [0]) [((l.length : Int), (l.length : Int) + 1)] vv hv) := by
  obtain ⟨hg, hv1, hv2, hbg⟩ := h
  obtain ⟨i0, hi, hz0, hz1, hz2⟩ := info_parts infoInt
  obtain ⟨j0, hi', hz0', hz1', hz2'⟩ := info_parts infoSpan
  obtain ⟨A, c, rfl, ha1, ha2⟩ := own_form hv1
  have hlt := hg.lt
  have c1 := hg.c 1 _ rfl
  have hne := own_ne_blk hv1 hg (by decide)
  have hdis := own_ne_own hv2 hv1 (by decide)
  have hn2 := own_ne_blk hv2 hg (by decide)
  have Hdis := Lib.hid hdis
  have Hg := Lib.hid hg
  clear hg hdis
  obtain ⟨A2, ch, rfl, hb1, hb2⟩ := own_form hv2
  go_enter Tryz.func78, Tryz.ntmps78
  go_wp2_with (first | (at_builtin; refine wpList_append_own _ rfl (.tmp 28) (.tmp 29) 22 rfl base 3 i0 (.int .i64 0) 1 8 Tryz.underlying22 hi hz0 hz1 hz2 rfl (by decide) _ _ _ rfl (hv1.alloc _) ⟨w.heap.size, 0, none⟩ 1 1 [.int .i64 0] rfl rfl (cell_one_new _ _ _) (by simp [Value.oneCell']) (by unfold maxLen; omega) (by omega) (by simp; omega) ?_; intro v' w1 hown hgrow _; obtain ⟨g', cap', rfl⟩ := own_succ hown; have hg1 := (Hg.out.alloc _).grown hgrow hne.symm; have d1 := hg1.c 1 _ rfl; have d2 := hg1.c 2 _ rfl; have fr1 := hg1.frozen 1; have fr2 := hg1.frozen 2; have Hg1 := Lib.hid hg1; clear hg1; have hv2' := (hv2.alloc _).kept hgrow Hdis.out; have Hv2' := Lib.hid hv2'; clear hv2') | (at_builtin; refine wpList_append_own _ rfl (.tmp 69) (.tmp 74) 23 rfl base 102 j0 (.agg #[.int .i64 0, .int .i64 0]) 2 16 Tryz.underlying23 hi' hz0' hz1' hz2' rfl (by decide) _ _ _ rfl ((own_setCell Hv2'.out (a := ⟨g, 1, none⟩) hn2 (.slice (some ⟨g', 0, none⟩) (l.length + 1) cap')).alloc _) ⟨w1.heap.size, 0, none⟩ 1 1 [.int .i64 l.length, .int .i64 ((l.length : Int) + 1)] rfl rfl (World.news_of_block (cs := #[.int .i64 l.length, .int .i64 ((l.length : Int) + 1)]) (t := 102) (fr := (0, 0)) (by simpa using heap_alloc_new (w1.setCell ⟨g, 1, none⟩ (.slice (some ⟨g', 0, none⟩) (l.length + 1) cap')) _)) (by simp [Value.oneCell']) (by unfold maxLen; simp only [List.length_nil, List.length_cons]; omega) (by simp only [List.length_nil, List.length_cons]; omega) (by have := hgrow.size; simp at this; simp; omega) ?_; intro v2 w2 hown2 hgrow2 _; obtain ⟨g2, cap2, rfl⟩ := own_succ hown2; have hg2 := ((Hg1.out.set_ 1 (.slice (some ⟨g', 0, none⟩) (l.length + 1) cap')).alloc _).grown hgrow2 (Ne.symm hn2); have m2 := hg2.c 2 _ rfl; have f2 := hg2.frozen 2; have Hg2 := Lib.hid hg2; clear hg2))
  go_end0
  have hne' := own_ne_blk hown Hg1.out (by decide)
  have hne2 := own_ne_blk hown2 Hg2.out (by decide)
  have k1 := (own_setCell hown (a := ⟨g, 1, none⟩) hne' (.slice (some ⟨g', 0, none⟩) (l.length + 1) cap')).alloc (.cells #[.int .i64 l.length, .int .i64 ((l.length : Int) + 1)] 102)
  have hd2 := own_ne_own hown Hv2'.out (by decide)
  have k2 := k1.kept hgrow2 hd2
  refine ⟨rfl, _, _, ⟨Hg2.out.set_ 2 _, ?_, ?_, by have := hgrow.size; have := hgrow2.size; simp at *; omega⟩, ?_⟩
  · rw [ints_snoc, List.length_append]
    exact own_setCell k2 (own_ne_blk k2 Hg2.out (by decide)) _
  · rw [show spans [((l.length : Int), (l.length : Int) + 1)] = spans [] ++ [.int .i64 l.length, .int .i64 ((l.length : Int) + 1)] from rfl]
    exact own_setCell hown2 hne2 _
  · refine Touch.trans (Touch.trans (Touch.trans (Touch.trans (Touch.trans (Touch.alloc _ _) (Touch.grown hgrow fun k hk => .inr (.inl hk))) (Touch.setCell (.inl rfl) _)) (Touch.alloc _ _)) (Touch.grown hgrow2 fun k hk => .inr (.inr hk))) (Touch.setCell (.inl rfl) _)

set_option maxRecDepth 100000 in
theorem add_new (g base : Nat) (f n a b : Int) (l : List Int) (hs : List (Int × Int)) (hab : b ≠ l.length) (vv hv : Value) (w : World) (h : OutAt w base g f l (hs ++ [(a, b)]) vv hv) (hl : l.length ≤ 1048576) (hl2 : hs.length ≤ 1048576) :
    Calls Tryz.prog 78 #[.pointer (some ⟨g, 0, none⟩), .int .i64 n, .bool false] w (AddPost w base g f (l ++ [0]) (hs ++ [(a, b)] ++ [((l.length : Int), (l.length : Int) + 1)]) vv hv) := by
  obtain ⟨hg, hv1, hv2, hbg⟩ := h
  obtain ⟨i0, hi, hz0, hz1, hz2⟩ := info_parts infoInt
  obtain ⟨j0, hi', hz0', hz1', hz2'⟩ := info_parts infoSpan
  obtain ⟨A, c, rfl, ha1, ha2⟩ := own_form hv1
  have hlt := hg.lt
  have c1 := hg.c 1 _ rfl
  have hne := own_ne_blk hv1 hg (by decide)
  have hdis := own_ne_own hv2 hv1 (by decide)
  have hn2 := own_ne_blk hv2 hg (by decide)
  have Hdis := Lib.hid hdis
  have Hg := Lib.hid hg
  clear hg hdis
  rw [List.length_append] at hv2
  obtain ⟨h0, ch, rfl⟩ := own_succ hv2
  have hn3 : h0 ≠ g := by simpa [Value.ownBlock] using hn2
  have exs : (spans (hs ++ [(a, b)]))[hs.length * 2 + 1]? = some (.int .i64 b) := by
    rw [spans_append, List.getElem?_append_right (by rw [spans_len]; omega), spans_len]
    simp [spans]
  have Exs := Lib.hid exs
  clear exs
  have hbq : (b == (l.length : Int)) = false := by simpa using hab
  go_enter Tryz.func78, Tryz.ntmps78
  go_wp2_with (first | (at_builtin; refine wpList_append_own _ rfl (.tmp 28) (.tmp 29) 22 rfl base 3 i0 (.int .i64 0) 1 8 Tryz.underlying22 hi hz0 hz1 hz2 rfl (by decide) _ _ _ rfl (hv1.alloc _) ⟨w.heap.size, 0, none⟩ 1 1 [.int .i64 0] rfl rfl (cell_one_new _ _ _) (by simp [Value.oneCell']) (by unfold maxLen; omega) (by omega) (by simp; omega) ?_; intro v' w1 hown hgrow _; obtain ⟨g', cap', rfl⟩ := own_succ hown; have hg1 := (Hg.out.alloc _).grown hgrow hne.symm; have d1 := hg1.c 1 _ rfl; have d2 := hg1.c 2 _ rfl; have fr1 := hg1.frozen 1; have fr2 := hg1.frozen 2; have Hg1 := Lib.hid hg1; clear hg1; have hv2' := (hv2.alloc _).kept hgrow Hdis.out; obtain ⟨e1, e2⟩ := own_cell hv2' Exs.out; have Hv2' := Lib.hid hv2'; clear hv2') | (at_builtin; refine wpList_append_own _ rfl (.tmp 69) (.tmp 74) 23 rfl base 102 j0 (.agg #[.int .i64 0, .int .i64 0]) 2 16 Tryz.underlying23 hi' hz0' hz1' hz2' rfl (by decide) _ _ _ rfl ((own_setCell Hv2'.out (a := ⟨g, 1, none⟩) hn2 (.slice (some ⟨g', 0, none⟩) (l.length + 1) cap')).alloc _) ⟨w1.heap.size, 0, none⟩ 1 1 [.int .i64 l.length, .int .i64 ((l.length : Int) + 1)] rfl rfl (World.news_of_block (cs := #[.int .i64 l.length, .int .i64 ((l.length : Int) + 1)]) (t := 102) (fr := (0, 0)) (by simpa using heap_alloc_new (w1.setCell ⟨g, 1, none⟩ (.slice (some ⟨g', 0, none⟩) (l.length + 1) cap')) _)) (by simp [Value.oneCell']) (by unfold maxLen; simp only [List.length_nil, List.length_cons]; omega) (by simp only [List.length_nil, List.length_cons]; omega) (by have := hgrow.size; simp at this; simp; omega) ?_; intro v2 w2 hown2 hgrow2 _; obtain ⟨g2, cap2, rfl⟩ := own_succ hown2; have hg2 := ((Hg1.out.set_ 1 (.slice (some ⟨g', 0, none⟩) (l.length + 1) cap')).alloc _).grown hgrow2 (Ne.symm hn2); have m2 := hg2.c 2 _ rfl; have f2 := hg2.frozen 2; have Hg2 := Lib.hid hg2; clear hg2))
  go_end0
  have hne' := own_ne_blk hown Hg1.out (by decide)
  have hne2 := own_ne_blk hown2 Hg2.out (by decide)
  have k1 := (own_setCell hown (a := ⟨g, 1, none⟩) hne' (.slice (some ⟨g', 0, none⟩) (l.length + 1) cap')).alloc (.cells #[.int .i64 l.length, .int .i64 ((l.length : Int) + 1)] 102)
  have hd2 := own_ne_own hown Hv2'.out (by decide)
  have k2 := k1.kept hgrow2 hd2
  refine ⟨rfl, _, _, ⟨Hg2.out.set_ 2 _, ?_, ?_, by have := hgrow.size; have := hgrow2.size; simp at *; omega⟩, ?_⟩
  · rw [ints_snoc, List.length_append]
    exact own_setCell k2 (own_ne_blk k2 Hg2.out (by decide)) _
  · rw [spans_append, List.length_append, List.length_append, show spans [((l.length : Int), (l.length : Int) + 1)] = [.int .i64 l.length, .int .i64 ((l.length : Int) + 1)] from rfl]
    exact own_setCell hown2 hne2 _
  · refine Touch.trans (Touch.trans (Touch.trans (Touch.trans (Touch.trans (Touch.alloc _ _) (Touch.grown hgrow fun k hk => .inr (.inl hk))) (Touch.setCell (.inl rfl) _)) (Touch.alloc _ _)) (Touch.grown hgrow2 fun k hk => .inr (.inr hk))) (Touch.setCell (.inl rfl) _)

theorem add_c (g base : Nat) (f n : Int) (kn : Bool) (l : List Int) (hs : List (Int × Int)) (vv hv : Value) (w : World) (h : OutAt w base g f l hs vv hv) (hl : l.length ≤ 1048576) (hl2 : hs.length ≤ 1048576) :
    Calls Tryz.prog 78 #[.pointer (some ⟨g, 0, none⟩), .int .i64 n, .bool kn] w (AddPost w base g f (l ++ [if kn then n else 0]) (if kn then hs else holesAdd hs l.length) vv hv) := by
  cases kn
  · rcases List.eq_nil_or_concat hs with rfl | ⟨h0, p, rfl⟩
    · exact add_nil g base f n l vv hv w h hl
    · obtain ⟨a, b⟩ := p
      rw [List.concat_eq_append] at h hl2 ⊢
      have hl3 : h0.length ≤ 1048576 := by rw [List.length_append] at hl2; omega
      by_cases hb : b = l.length
      · subst hb
        simpa [holesAdd] using add_merge g base f n a l h0 vv hv w h hl hl3
      · simpa [holesAdd, hb] using add_new g base f n a b l h0 hb vv hv w h hl hl3
  · exact add_known g base f n l hs vv hv w h hl

end Go.Proofs.YtbpffadffbgloaaGreatDoor
