/- Contracts: Turned, and the three functions that ChordTurned writes out. -/
import Derived.Test.YtbpffadffbgloaaDoorQb
import Derived.Test.YtbpffadffbgloaaDoorL
set_option linter.unusedVariables false
set_option linter.unusedSimpArgs false
namespace Go.Proofs.YtbpffadffbgloaaDoor
open Go.RowKit Go.Shelf Go.Sym

def PTurned_i (b a : Int) : Inst := { f := 51, hin := [], args := [.agg [i64 b, i64 a]], hout := [], ret := .tup [.agg [i64 a, i64 b], i64 0], σ := [] }
theorem PTurned_s (b a : Int) (h : chordS b a = 0) : (PTurned_i b a).ok Tryd.prog := by
  refine ⟨⟨_, Tryd.func51, rfl⟩, fun ρ w vs hdom _ hh hd => ?_⟩
  simp only [PTurned_i, AV.denL, AV.den, Option.map_some, listO, Option.some.injEq] at hd
  subst hd
  refine (Turned_c b a w).mono ?_
  rintro e w' ⟨he, hb⟩
  rw [h, if_pos rfl] at he
  subst he
  exact post_of_lit hb

def PBnd_i (t : Tr) (short long : Int) (σ : Sym.Ren) : Inst := { f := 41, hin := trIn t, args := [trA 0 1 t, i64 short, i64 long], hout := trO 2 (BandS t short long), ret := trR 2 (BandS t short long), σ := σ }
theorem PBnd_s (t : Tr) (short long : Int) (σ : Sym.Ren) : (PBnd_i t short long σ).ok Tryd.prog := by
  refine ⟨⟨_, Tryd.func41, rfl⟩, fun ρ w vs hdom _ hh hd => ?_⟩
  obtain ⟨L1, L2, p1, p2, hr⟩ := tr_args (i := 0) (j := 1) hh rfl rfl
  simp only [PBnd_i, trA, AV.denL, AV.den, p1, p2, Option.map_some, listO, Option.some.injEq] at hd
  subst hd
  exact (Band_c short long _ _ t w hr).mono fun e w' h => post_of_tr hdom rfl rfl h
set_option maxRecDepth 20000 in
set_option maxHeartbeats 1000000 in
theorem TuVersines_c (b a : Int) (vv hv : Value) (t : Tr) (w : World) (h : RdT w w.heap.size vv hv t) (g : Nat) (hg : g < w.heap.size) (c0 : w.cell? ⟨g, 0, none⟩ = some (.int .i64 b)) (c1 : w.cell? ⟨g, 1, none⟩ = some (.int .i64 a)) :
    Calls Tryd.prog 65 #[trv t.first vv hv, .pointer (some ⟨g, 0, none⟩)] w (TrPost w (VersinesS b a t)) := by
  obtain ⟨A, c, rfl, h1, h2⟩ := h.1.slice
  obtain ⟨A', c', rfl, h1', h2'⟩ := h.2.slice
  unfold trv
  go_enter Tryd.func65, Tryd.ntmps65
  go_wp2_with fail
  obtain ⟨k1, k2, hB⟩ := alloc2 w #[.int .i64 t.first, .slice A t.vals.length c, .slice A' t.holes.length c'] #[.int .i64 0, .slice none 0 0, .slice none 0 0] 30 30
  generalize World.alloc (World.alloc w _) _ = W at *
  have hlt := k2.lt
  have hs0 := hB.size
  have hb : RdT W W.heap.size (.slice A t.vals.length c) (.slice A' t.holes.length c') t := (h.below hB).more hB.size
  obtain ⟨T, hT⟩ : ∃ T, VersinesS b a t = T := ⟨_, rfl⟩
  refine (Versines_c b a (.slice A t.vals.length c) (.slice A' t.holes.length c') t _ hb).mono ?_
  rintro e w' ⟨rv, rh, rfl, hr, hf1, hf2, hbf⟩
  rw [hT] at hr ⊢
  obtain ⟨RA, rc, rfl, hr1, hr2⟩ := hr.1.slice
  obtain ⟨RB, rd, rfl, hr3, hr4⟩ := hr.2.slice
  (try simp only [trv])
  have q0 := (k2.ext hbf).c 0 _ rfl; have q1 := (k2.ext hbf).c 1 _ rfl; have q2 := (k2.ext hbf).c 2 _ rfl; have q3 := (k2.ext hbf).frozen
  have hA : Below w.heap.size w w' := Below.ext hB hbf
  go_wp2
  have m9 := blk_trace (k2.ext hbf) (.int .i64 T.1.first) (.slice RA T.1.vals.length rc) (.slice RB T.1.holes.length rd)
  have p0 := m9.c 0 _ rfl; have p1 := m9.c 1 _ rfl; have p2 := m9.c 2 _ rfl
  clear q0 q1 q2 q3
  (try simp only [Exit.inBlock, Exit.then]); refine bodyPost_ret (v := .tuple #[trv T.1.first (.slice RA T.1.vals.length rc) (.slice RB T.1.holes.length rd), .int .i64 T.2]) (by simp [results, Tryd.results65, go_sem, p0, p1, p2, trv]) rfl ?_
  rw [hT]
  exact tr_end (G := w.heap.size + 1) hr hf1 hf2 (by omega) (by omega) _ _ _ (by (repeat (first | with_reducible exact Below.refl _ _ | with_reducible assumption | with_reducible exact And.left (by assumption) | with_reducible exact And.left (And.right (by assumption)) | with_reducible refine Below.setCell ?_ (by dsimp only; omega) _ | with_reducible refine Below.allocE ?_ _ | with_reducible refine Below.drew ?_ | exact Below.refl _ _ | assumption | exact And.left (by assumption) | exact And.left (And.right (by assumption)) | refine Below.drew ?_ | refine Below.allocE ?_ _ | refine Below.setCell ?_ (by dsimp only; omega) _)))
def TuVersines_i (b a : Int) (t : Tr) (σ : Sym.Ren) : Inst := { f := 65, hin := trIn t ++ [(2, .rb 23 [i64 b, i64 a])], args := [trA 0 1 t, .ptr 2 0 0 0], hout := trO 3 (VersinesS b a t), ret := trR 3 (VersinesS b a t), σ := σ }
theorem TuVersines_s (b a : Int) (t : Tr) (σ : Sym.Ren) : (TuVersines_i b a t σ).ok Tryd.prog := by
  refine ⟨⟨_, Tryd.func65, rfl⟩, fun ρ w vs hdom _ hh hd => ?_⟩
  obtain ⟨L1, L2, p1, p2, hr⟩ := tr_args (i := 0) (j := 1) hh rfl rfl
  obtain ⟨g, cap, us, p3, p4, ty, fr, p5⟩ := hh.holds 2 _ rfl
  simp only [AV.denL, AV.den, listO, Option.some.injEq] at p4
  subst p4
  have hg : g < w.heap.size := (Array.getElem?_eq_some_iff.1 p5).1
  simp only [TuVersines_i, trA, AV.denL, AV.den, p1, p2, p3, Option.map_some, Option.bind_some, listO, Option.some.injEq] at hd
  subst hd
  exact (TuVersines_c b a _ _ t w hr g hg (by simp [World.cell?, p5]) (by simp [World.cell?, p5])).mono fun e w' h => post_of_tr hdom rfl rfl h
set_option maxRecDepth 20000 in
set_option maxHeartbeats 1000000 in
theorem TuSmoothed_c (b : Int) (vv hv : Value) (t : Tr) (w : World) (h : RdT w w.heap.size vv hv t) (g : Nat) (hg : g < w.heap.size) (c0 : w.cell? ⟨g, 0, none⟩ = some (.int .i64 b)) :
    Calls Tryd.prog 66 #[trv t.first vv hv, .pointer (some ⟨g, 0, none⟩)] w (TrPost w (SmoothedS t b)) := by
  obtain ⟨A, c, rfl, h1, h2⟩ := h.1.slice
  obtain ⟨A', c', rfl, h1', h2'⟩ := h.2.slice
  unfold trv
  go_enter Tryd.func66, Tryd.ntmps66
  go_wp2_with fail
  obtain ⟨k1, k2, hB⟩ := alloc2 w #[.int .i64 t.first, .slice A t.vals.length c, .slice A' t.holes.length c'] #[.int .i64 0, .slice none 0 0, .slice none 0 0] 30 30
  generalize World.alloc (World.alloc w _) _ = W at *
  have hlt := k2.lt
  have hs0 := hB.size
  have hb : RdT W W.heap.size (.slice A t.vals.length c) (.slice A' t.holes.length c') t := (h.below hB).more hB.size
  obtain ⟨T, hT⟩ : ∃ T, SmoothedS t b = T := ⟨_, rfl⟩
  refine (Smoothed_c b (.slice A t.vals.length c) (.slice A' t.holes.length c') t _ hb).mono ?_
  rintro e w' ⟨rv, rh, rfl, hr, hf1, hf2, hbf⟩
  rw [hT] at hr ⊢
  obtain ⟨RA, rc, rfl, hr1, hr2⟩ := hr.1.slice
  obtain ⟨RB, rd, rfl, hr3, hr4⟩ := hr.2.slice
  (try simp only [trv])
  have q0 := (k2.ext hbf).c 0 _ rfl; have q1 := (k2.ext hbf).c 1 _ rfl; have q2 := (k2.ext hbf).c 2 _ rfl; have q3 := (k2.ext hbf).frozen
  have hA : Below w.heap.size w w' := Below.ext hB hbf
  go_wp2
  have m9 := blk_trace (k2.ext hbf) (.int .i64 T.1.first) (.slice RA T.1.vals.length rc) (.slice RB T.1.holes.length rd)
  have p0 := m9.c 0 _ rfl; have p1 := m9.c 1 _ rfl; have p2 := m9.c 2 _ rfl
  clear q0 q1 q2 q3
  (try simp only [Exit.inBlock, Exit.then]); refine bodyPost_ret (v := .tuple #[trv T.1.first (.slice RA T.1.vals.length rc) (.slice RB T.1.holes.length rd), .int .i64 T.2]) (by simp [results, Tryd.results66, go_sem, p0, p1, p2, trv]) rfl ?_
  rw [hT]
  exact tr_end (G := w.heap.size + 1) hr hf1 hf2 (by omega) (by omega) _ _ _ (by (repeat (first | with_reducible exact Below.refl _ _ | with_reducible assumption | with_reducible exact And.left (by assumption) | with_reducible exact And.left (And.right (by assumption)) | with_reducible refine Below.setCell ?_ (by dsimp only; omega) _ | with_reducible refine Below.allocE ?_ _ | with_reducible refine Below.drew ?_ | exact Below.refl _ _ | assumption | exact And.left (by assumption) | exact And.left (And.right (by assumption)) | refine Below.drew ?_ | refine Below.allocE ?_ _ | refine Below.setCell ?_ (by dsimp only; omega) _)))
def TuSmoothed_i (b : Int) (t : Tr) (σ : Sym.Ren) : Inst := { f := 66, hin := trIn t ++ [(2, .rb 3 [i64 b])], args := [trA 0 1 t, .ptr 2 0 0 0], hout := trO 3 (SmoothedS t b), ret := trR 3 (SmoothedS t b), σ := σ }
theorem TuSmoothed_s (b : Int) (t : Tr) (σ : Sym.Ren) : (TuSmoothed_i b t σ).ok Tryd.prog := by
  refine ⟨⟨_, Tryd.func66, rfl⟩, fun ρ w vs hdom _ hh hd => ?_⟩
  obtain ⟨L1, L2, p1, p2, hr⟩ := tr_args (i := 0) (j := 1) hh rfl rfl
  obtain ⟨g, cap, us, p3, p4, ty, fr, p5⟩ := hh.holds 2 _ rfl
  simp only [AV.denL, AV.den, listO, Option.some.injEq] at p4
  subst p4
  have hg : g < w.heap.size := (Array.getElem?_eq_some_iff.1 p5).1
  simp only [TuSmoothed_i, trA, AV.denL, AV.den, p1, p2, p3, Option.map_some, Option.bind_some, listO, Option.some.injEq] at hd
  subst hd
  exact (TuSmoothed_c b _ _ t w hr g hg (by simp [World.cell?, p5])).mono fun e w' h => post_of_tr hdom rfl rfl h
set_option maxRecDepth 20000 in
set_option maxHeartbeats 1000000 in
theorem TuBand_c (b : Int) (vv hv : Value) (t : Tr) (w : World) (h : RdT w w.heap.size vv hv t) (g : Nat) (hg : g < w.heap.size) (c0 : w.cell? ⟨g, 0, none⟩ = some (.int .i64 b)) (h0 : 1 ≤ b) (h1 : b ≤ 32) :
    Calls Tryd.prog 67 #[trv t.first vv hv, .pointer (some ⟨g, 0, none⟩)] w (TrPost w (BandS t (b - 1) b)) := by
  obtain ⟨A, c, rfl, h1, h2⟩ := h.1.slice
  obtain ⟨A', c', rfl, h1', h2'⟩ := h.2.slice
  unfold trv
  go_enter Tryd.func67, Tryd.ntmps67
  go_wp2_with fail
  obtain ⟨k1, k2, hB⟩ := alloc2 w #[.int .i64 t.first, .slice A t.vals.length c, .slice A' t.holes.length c'] #[.int .i64 0, .slice none 0 0, .slice none 0 0] 30 30
  generalize World.alloc (World.alloc w _) _ = W at *
  have hlt := k2.lt
  have hs0 := hB.size
  have hb : RdT W W.heap.size (.slice A t.vals.length c) (.slice A' t.holes.length c') t := (h.below hB).more hB.size
  obtain ⟨T, hT⟩ : ∃ T, BandS t (b - 1) b = T := ⟨_, rfl⟩
  refine (Band_c (b - 1) b (.slice A t.vals.length c) (.slice A' t.holes.length c') t _ hb).mono ?_
  rintro e w' ⟨rv, rh, rfl, hr, hf1, hf2, hbf⟩
  rw [hT] at hr ⊢
  obtain ⟨RA, rc, rfl, hr1, hr2⟩ := hr.1.slice
  obtain ⟨RB, rd, rfl, hr3, hr4⟩ := hr.2.slice
  (try simp only [trv])
  have q0 := (k2.ext hbf).c 0 _ rfl; have q1 := (k2.ext hbf).c 1 _ rfl; have q2 := (k2.ext hbf).c 2 _ rfl; have q3 := (k2.ext hbf).frozen
  have hA : Below w.heap.size w w' := Below.ext hB hbf
  go_wp2
  have m9 := blk_trace (k2.ext hbf) (.int .i64 T.1.first) (.slice RA T.1.vals.length rc) (.slice RB T.1.holes.length rd)
  have p0 := m9.c 0 _ rfl; have p1 := m9.c 1 _ rfl; have p2 := m9.c 2 _ rfl
  clear q0 q1 q2 q3
  (try simp only [Exit.inBlock, Exit.then]); refine bodyPost_ret (v := .tuple #[trv T.1.first (.slice RA T.1.vals.length rc) (.slice RB T.1.holes.length rd), .int .i64 T.2]) (by simp [results, Tryd.results67, go_sem, p0, p1, p2, trv]) rfl ?_
  rw [hT]
  exact tr_end (G := w.heap.size + 1) hr hf1 hf2 (by omega) (by omega) _ _ _ (by (repeat (first | with_reducible exact Below.refl _ _ | with_reducible assumption | with_reducible exact And.left (by assumption) | with_reducible exact And.left (And.right (by assumption)) | with_reducible refine Below.setCell ?_ (by dsimp only; omega) _ | with_reducible refine Below.allocE ?_ _ | with_reducible refine Below.drew ?_ | exact Below.refl _ _ | assumption | exact And.left (by assumption) | exact And.left (And.right (by assumption)) | refine Below.drew ?_ | refine Below.allocE ?_ _ | refine Below.setCell ?_ (by dsimp only; omega) _)))
def TuBand_i (b : Int) (t : Tr) (σ : Sym.Ren) : Inst := { f := 67, hin := trIn t ++ [(2, .rb 3 [i64 b])], args := [trA 0 1 t, .ptr 2 0 0 0], hout := trO 3 (BandS t (b - 1) b), ret := trR 3 (BandS t (b - 1) b), σ := σ }
theorem TuBand_s (b : Int) (t : Tr) (σ : Sym.Ren) (h0 : 1 ≤ b) (h1 : b ≤ 32) : (TuBand_i b t σ).ok Tryd.prog := by
  refine ⟨⟨_, Tryd.func67, rfl⟩, fun ρ w vs hdom _ hh hd => ?_⟩
  obtain ⟨L1, L2, p1, p2, hr⟩ := tr_args (i := 0) (j := 1) hh rfl rfl
  obtain ⟨g, cap, us, p3, p4, ty, fr, p5⟩ := hh.holds 2 _ rfl
  simp only [AV.denL, AV.den, listO, Option.some.injEq] at p4
  subst p4
  have hg : g < w.heap.size := (Array.getElem?_eq_some_iff.1 p5).1
  simp only [TuBand_i, trA, AV.denL, AV.den, p1, p2, p3, Option.map_some, Option.bind_some, listO, Option.some.injEq] at hd
  subst hd
  exact (TuBand_c b _ _ t w hr g hg (by simp [World.cell?, p5]) h0 h1).mono fun e w' h => post_of_tr hdom rfl rfl h

end Go.Proofs.YtbpffadffbgloaaDoor
