/- Chapter 9: a list of jobs that is an argument, opened. -/
import Derived.Test.YtlhgddgoblliaaaGreatDoorPo
import Derived.Test.YtlhgddgoblliaaaGreatDoorVb
set_option linter.unusedVariables false
set_option linter.unusedSimpArgs false
namespace Go.Proofs.YtlhgddgoblliaaaGreatDoor
open Go.RowKit Go.Sym
open Go.ChangeShapes Go.WideShapes Go.ChangeAt

/-- Where a list of jobs lies; fk is a slice as which the places of the jobs' lists are kept. -/
def JobRd (W : World) (v fk : Value) (l : List Jb) : Prop :=
  (l.length ≤ 9223372036854775807 ∧ ∀ k, lnJ l k ≤ 9223372036854775807) ∧ ∀ (ρ : Env) (i j : Nat), ρ i = some (locV v) → ρ j = some (locV fk) → (jbCh l j).holds ρ i W ∧ (fmCh l).holds ρ j W ∧ (AV.sl i l.length).den ρ = some v
set_option maxRecDepth 20000 in
theorem open_strs {W : World} {H : Type} {enc : TypeId × Value → H} {fuel : Nat} {v : Value} {x : DataW H × List MemPlace} (h : DataW.trod enc Tryz.prog W 0 (fun _ => true) true fuel 47 [v] = some x) : ∃ l : List ByteArray, Rd W W.heap.size 1 v l.length (l.map Value.string) := by
  obtain ⟨R, h1, h2⟩ := open_rows (P := Tryz.prog) (k := 4) (ks := [.str]) (show Tryz.prog.underlying 47 = some (.slice 9) by kernel_rfl) (by kernel_rfl) (by kernel_rfl) (by decide) h
  obtain ⟨L, rfl⟩ := rows_map (f := fun s : ByteArray => [Value.string s]) fun r hr => by
    obtain ⟨a, l, rfl, _, hl⟩ := flat_str (h1 r hr)
    obtain rfl := flat_nil hl
    exact ⟨a, rfl⟩
  have e : (L.map fun s : ByteArray => [Value.string s]).flatten = L.map Value.string := by
    clear h1 h2
    induction L with
    | nil => rfl
    | cons a L ih => simp only [List.map_cons, List.flatten_cons, ih]; rfl
  rw [List.length_map, e] at h2
  exact ⟨L, h2⟩
theorem strC_is (l : List ByteArray) : (strC l).cells = (l.map Value.string).map AV.lit := by
  refine List.ext_getElem? fun q => ?_
  simp only [strC, Cont.cells, List.getElem?_map, Nat.mul_one]
  by_cases hq : q < l.length
  · rw [List.getElem?_range hq, List.getElem?_eq_getElem hq]
    simp [List.getD, hq, Nat.mod_one]
  · rw [List.getElem?_eq_none (by simp; omega), List.getElem?_eq_none (by omega)]
    rfl
set_option maxRecDepth 20000 in
theorem open_jobs {W : World} {H : Type} {enc : TypeId × Value → H} {r : Reach} {b0 : Nat} {v : Value} {d : DataW H} {p : List MemPlace} (hval : Value.okWide Tryz.prog W r b0 22 v)
    (h : DataW.Trod enc Tryz.prog W 0 (fun _ => true) true 22 v d p) : ∃ (l : List Jb) (fk : Value), JobRd W v fk l := by
  have ht : Tryz.prog.underlying 22 = some (.slice 51) := by kernel_rfl
  have hu : ∃ f0 f1 f2, Tryz.prog.underlying 51 = some (.struct #[f0, f1, f2]) ∧ f0.type = 9 ∧ f1.type = 9 ∧ f2.type = 47 ∧ f0.offset = 0 ∧ f1.offset = 1 ∧ f2.offset = 2 := ⟨_, _, _, Tryz.underlying51, rfl, rfl, rfl, rfl, rfl, rfl⟩
  obtain ⟨f0, f1, f2, hu, t0, t1, t2, o0, o1, o2⟩ := hu
  have hs : Tryz.prog.underlying 9 = some .string := by kernel_rfl
  have cs1 : Tryz.prog.cellsOf 9 = 1 := by kernel_rfl
  have cl1 : Tryz.prog.cellsOf 47 = 1 := by kernel_rfl
  have c3 : Tryz.prog.cellsOf 51 = 3 := by kernel_rfl
  have build : ∀ (Ad : Option Addr) (n cap : Nat) (f : Nat → Jb × Value), v = .slice Ad n cap → n ≤ cap → cap ≤ maxLen → (0 < n → ∃ a, Ad = some a ∧ ∀ r, r < n → W.cell? (a.add (r * 3)) = some (.string (f r).1.name) ∧ W.cell? (a.add (r * 3 + 1)) = some (.string (f r).1.kind) ∧ W.cell? (a.add (r * 3 + 2)) = some (f r).2) →
      (∀ r, r < n → Rd W W.heap.size 1 (f r).2 (f r).1.af.length ((f r).1.af.map Value.string)) → ∃ (l : List Jb) (fk : Value), JobRd W v fk l := by
    intro Ad n cap f hv h1 h2 h3 h4
    have hll : ((List.range n).map fun r => (f r).1).length = n := by simp
    have hget : ∀ k, k < n → ((List.range n).map fun r => (f r).1).getD k jbD = (f k).1 := fun k hk => by
      rw [List.getD_eq_getElem?_getD, List.getElem?_map, List.getElem?_range hk]; rfl
    have hnon : ∀ k, ¬ k < n → ((List.range n).map fun r => (f r).1).getD k jbD = jbD := fun k hk => by
      rw [List.getD_eq_getElem?_getD, List.getElem?_eq_none (by simp; omega)]; rfl
    obtain ⟨l, hl⟩ : ∃ l, ((List.range n).map fun r => (f r).1) = l := ⟨_, rfl⟩
    rw [hl] at hll hget hnon
    have hslice : ∀ k, k < n → (f k).2 = .slice (locV (f k).2).ad (lnJ l k) (locV (f k).2).cap ∧ lnJ l k ≤ (locV (f k).2).cap ∧ (locV (f k).2).cap ≤ maxLen := fun k hk => by
      obtain ⟨g1, A, C, g2, g3, g4, _⟩ := h4 k hk
      show _ = Value.slice _ (l.getD k jbD).af.length _ ∧ (l.getD k jbD).af.length ≤ _ ∧ _
      rw [hget k hk, g2]
      exact ⟨rfl, g3, g4⟩
    refine ⟨l, .slice none 0 (locsN ((List.range n).map fun r => ((locV (f r).2).ad, (locV (f r).2).cap))), ⟨by rw [hll]; unfold maxLen at h2; omega, fun k => ?_⟩, fun ρ i j hi hj => ⟨?_, ?_, by rw [hll, hv] at *; simp [AV.den, hi, locV]⟩⟩
    · by_cases hk : k < n
      · obtain ⟨_, g1, g2⟩ := hslice k hk
        unfold maxLen at g2; omega
      · show (l.getD k jbD).af.length ≤ _
        rw [hnon k hk]; exact Nat.zero_le _
    · have hcell : ∀ q, q < n * 3 → (jbsC j 3 (hdJ l) (lnJ l) q).den ρ = some (if q % 3 + 1 = 3 then (f (q / 3)).2 else (hdJ l (q / 3)).getD (q % 3) undef) := fun q hq => by
        have hq3 : q / 3 < n := by omega
        unfold jbsC
        by_cases he : q % 3 + 1 = 3
        · rw [if_pos he, if_pos he]
          simp only [AV.den, hj, locV, Option.bind_some, Tb.den, locs_N]
          rw [List.getElem?_map, List.getElem?_range hq3]
          exact congrArg some (hslice (q / 3) hq3).1.symm
        · rw [if_neg he, if_neg he]
          rfl
      refine ⟨locV v, (List.range (n * 3)).map fun q => if q % 3 + 1 = 3 then (f (q / 3)).2 else (hdJ l (q / 3)).getD (q % 3) undef, hi, ?_, by simp [hll], ?_, ?_, fun h0 => ?_⟩
      · have hall : ∀ (L : List Nat), (∀ q ∈ L, q < n * 3) → AV.denL ρ (L.map (jbsC j 3 (hdJ l) (lnJ l))) = some (L.map fun q => if q % 3 + 1 = 3 then (f (q / 3)).2 else (hdJ l (q / 3)).getD (q % 3) undef) := by
          intro L
          induction L with
          | nil => intro _; rfl
          | cons q L ih =>
            intro hq
            simp only [List.map_cons, AV.denL]
            rw [ih fun q hm => hq q (List.mem_cons_of_mem _ hm), hcell q (hq q List.mem_cons_self)]
            rfl
        rw [hll]
        exact hall _ fun q hq => List.mem_range.1 hq
      · rw [hll, hv]; exact h1
      · rw [hv, capOk_pos (by decide)]; exact h2
      · obtain ⟨a, e1, e2⟩ := h3 (by omega)
        refine ⟨a, by rw [hv]; exact e1, fun q u hu => ?_⟩
        rw [List.getElem?_map] at hu
        cases hg : (List.range (n * 3))[q]? with
        | none => rw [hg] at hu; cases hu
        | some z =>
          rw [hg] at hu
          cases hu
          obtain ⟨hlt, e3⟩ := List.getElem?_eq_some_iff.1 hg
          have : z = q := by simpa using e3.symm
          subst this
          have hz : z < n * 3 := by simpa using hlt
          obtain ⟨k1, k2, k3⟩ := e2 (z / 3) (by omega)
          have hd : hdJ l (z / 3) = [.string (f (z / 3)).1.name, .string (f (z / 3)).1.kind] := by unfold hdJ; rw [hget _ (by omega)]
          show W.cell? (a.add z) = some (if z % 3 + 1 = 3 then (f (z / 3)).2 else (hdJ l (z / 3)).getD (z % 3) undef)
          rw [hd]
          have hm : z % 3 = 0 ∨ z % 3 = 1 ∨ z % 3 = 2 := by omega
          rcases hm with hm | hm | hm
          · rw [show W.cell? (a.add z) = W.cell? (a.add (z / 3 * 3)) from congrArg (fun q => W.cell? (a.add q)) (by omega), k1, hm]
            rfl
          · rw [show W.cell? (a.add z) = W.cell? (a.add (z / 3 * 3 + 1)) from congrArg (fun q => W.cell? (a.add q)) (by omega), k2, hm]
            rfl
          · rw [show W.cell? (a.add z) = W.cell? (a.add (z / 3 * 3 + 2)) from congrArg (fun q => W.cell? (a.add q)) (by omega), k3, hm]
            rfl
    · refine ⟨_, hj, by decide, by simp [locV, locs_N, hll], fun e rr er => ?_, fun h => by cases h⟩
      simp only [locV, locs_N] at er
      rw [List.getElem?_map] at er
      cases hg : (List.range n)[e]? with
      | none => rw [hg] at er; cases er
      | some z =>
        rw [hg] at er
        cases er
        obtain ⟨hlt, e3⟩ := List.getElem?_eq_some_iff.1 hg
        have : z = e := by simpa using e3.symm
        subst this
        have hz : z < n := by simpa using hlt
        obtain ⟨g1, A, C, g2, g3, g4, g5⟩ := h4 z hz
        have hln : lnJ l z = (f z).1.af.length := by show (l.getD z jbD).af.length = _; rw [hget z hz]
        have hfm : fmJ l z = strC (f z).1.af := by unfold fmJ; rw [hget z hz]
        show RowAt W ((locV (f z).2).ad, (locV (f z).2).cap) false 9 1 (lnJ l z) (fmJ l z)
        rw [hln, hfm, g2]
        refine ⟨(f z).1.af.map Value.string, fun ρ' => by rw [strC_is, denL_lits], g1, g3, g4, fun h0 => ?_, fun h => by cases h⟩
        obtain ⟨a, e1, _, e2⟩ := g5 (by omega)
        exact ⟨a, e1, e2⟩
  obtain ⟨fuel, hf⟩ := h
  rw [slice_cells ht hval] at hf
  rcases Go.Deep.open_slice ht hf with ⟨hcs, _⟩ | ⟨a, len, cap, m, n, D, Pl, hcs, _, hl, hm, hmm, _, hx⟩
  · have hv : v = .slice none 0 0 := by simpa using hcs
    exact build none 0 0 (fun _ => (jbD, undef)) hv (Nat.le_refl _) (Nat.zero_le _) (fun h => absurd h (Nat.lt_irrefl _)) (fun r hr => absurd hr (Nat.not_lt_zero _))
  · have hv : v = .slice (some a) len cap := by simpa using hcs
    simp only [if_true] at hmm
    subst hmm
    rw [c3] at hx
    have each : ∀ r, ∃ q : Jb × Value, r < len → (W.cell? (a.add (r * 3)) = some (.string q.1.name) ∧ W.cell? (a.add (r * 3 + 1)) = some (.string q.1.kind) ∧ W.cell? (a.add (r * 3 + 2)) = some q.2) ∧ Rd W W.heap.size 1 q.2 q.1.af.length (q.1.af.map Value.string) := by
      intro r
      by_cases hr : r < len
      · obtain ⟨c, g1, g2⟩ := hx r (by omega)
        obtain ⟨xs, k, _, _, hcl, hlen, hg⟩ := DataW.trod_struct hu g2
        rw [c3] at hcl
        obtain ⟨_, g4, g5⟩ := World.cells?_some g1
        match c, hcl, xs, hlen with
        | [y0, y1, y2], _, [z0, z1, z2], _ =>
          have e0 := hg 0 f0 rfl
          have e1 := hg 1 f1 rfl
          have e2 := hg 2 f2 rfl
          rw [t0, cs1, o0] at e0
          rw [t1, cs1, o1] at e1
          rw [t2, cl1, o2] at e2
          simp at e0 e1 e2
          obtain ⟨s0, q0, _⟩ := DataW.trod_string hs e0
          obtain ⟨s1, q1, _⟩ := DataW.trod_string hs e1
          obtain ⟨L, hL⟩ := open_strs e2
          have p0 := g5 0 (by omega)
          have p1 := g5 1 (by omega)
          have p2 := g5 2 (by omega)
          rw [addr_add'] at p0 p1 p2
          cases q0
          cases q1
          exact ⟨(⟨s0, s1, L⟩, y2), fun _ => ⟨⟨p0, p1, p2⟩, hL⟩⟩
      · exact ⟨(jbD, undef), fun h => absurd h hr⟩
    obtain ⟨f, hf⟩ := Classical.axiomOfChoice each
    exact build (some a) len m f hv hl hm (fun _ => ⟨a, rfl, fun r hr => (hf r hr).1⟩) (fun r hr => (hf r hr).2)

end Go.Proofs.YtlhgddgoblliaaaGreatDoor
