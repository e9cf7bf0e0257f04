/- Lists of structs whose last field is a list: a further struct, its list among the family's. No program in sight. -/
import Derived.Test.YtlhgddgoblliaaaGreatDoorKa
set_option linter.unusedVariables false
set_option linter.unusedSimpArgs false
namespace Go.Sym
open Go.RowKit

theorem jbs_snoc (j n sz : Nat) (hd : Nat → List Value) (len : Nat → Nat) (l : List Value) (hl : l.length + 1 = sz) (hn : hd n = l) : (Cont.jbs j (n + 1) sz hd len).cells = (Cont.jbs j n sz hd len).cells ++ (l.map AV.lit ++ [.tb j (.row n (len n))]) := by
  subst hn
  refine List.ext_getElem? fun q => ?_
  have hsz : 0 < sz := by omega
  have h1 : (n + 1) * sz = n * sz + sz := by rw [Nat.add_mul, Nat.one_mul]
  simp only [Cont.cells]
  by_cases hq : q < n * sz
  · rw [List.getElem?_append_left (by simp; exact hq), List.getElem?_map, List.getElem?_map, List.getElem?_range hq, List.getElem?_range (by omega)]
  · rw [List.getElem?_append_right (by simp; omega), List.length_map, List.length_range, List.getElem?_map]
    by_cases hq2 : q < n * sz + sz
    · rw [List.getElem?_range (by omega)]
      obtain ⟨f, rfl⟩ : ∃ f, q = n * sz + f := ⟨q - n * sz, by omega⟩
      have hf : f < sz := by omega
      have h2 : (n * sz + f) / sz = n := by rw [Nat.mul_comm, Nat.mul_add_div hsz, Nat.div_eq_of_lt hf]; omega
      have h3 : (n * sz + f) % sz = f := by rw [Nat.mul_comm, Nat.mul_add_mod, Nat.mod_eq_of_lt hf]
      simp only [Option.map_some, jbsC, h2, h3, show n * sz + f - n * sz = f by omega]
      by_cases hfl : f + 1 = sz
      · rw [if_pos hfl, List.getElem?_append_right (by simp; omega)]
        simp [show f - (hd n).length = 0 by omega]
      · have hlt : f < (hd n).length := by omega
        rw [if_neg hfl, List.getElem?_append_left (by simp; exact hlt), List.getElem?_map, List.getElem?_eq_getElem hlt]
        simp [List.getD, hlt]
    · rw [List.getElem?_eq_none (by simp; omega), List.getElem?_eq_none (by simp; omega)]
      rfl
/-- A struct that was appended is one of the list, its list a row of the family. -/
theorem putJ_sub {F : Frm} {T : List (Nat × AV)} {H : List (Nat × Chunk)} {nx i j k n m sz : Nat} {o : Bool} {ch : Chunk} {t te : TypeId} {len : Nat → Nat} {c : Nat → Cont} {hd : Nat → List Value} {l : List Value} {c0 ck : Cont}
    (hi : look i H = some (.row t (n + 1) sz c0)) (hj : look j H = some (.fam o te 1 n len c)) (hk : look k H = some ch) (hch : ch = .row te m 1 ck ∨ (ch = .ro 0 0 (.exp []) ∧ m = 0 ∧ ck.cells = []))
    (hc : c0.cells = (Cont.jbs j n sz hd len).cells ++ (l.map AV.lit ++ [.sl k m])) (hl : l.length + 1 = sz) (hlit : litC ck = true) :
    Sub F ⟨T, H, nx⟩ ⟨T, (nx, .fam o te 1 (n + 1) (fun q => if q = n then m else len q) (fun q => if q = n then ck else c q)) :: (i, .row t (n + 1) sz (.jbs nx (n + 1) sz (fun q => if q = n then l else hd q) (fun q => if q = n then m else len q))) :: delA k (delA j (delA i H)), nx + 1⟩ := by
  intro ρ a w h
  change Holds F T H nx ρ a w at h
  show ∃ ρ', Holds F T _ (nx + 1) ρ' a w
  have hnx := free_nx h
  have hil := look_lt h hi
  have hjl := look_lt h hj
  have hkl := look_lt h hk
  have hij : i ≠ j := fun q => by subst q; rw [hi] at hj; cases hj
  have hjk : j ≠ k := fun q => by subst q; rw [hj] at hk; cases hk; rcases hch with h | ⟨h, _⟩ <;> cases h
  obtain ⟨L, eL, f1, f2, f3, f4⟩ := h.I.heap.holds j _ hj
  obtain ⟨us0, hu0⟩ := litC_den hlit
  obtain ⟨Lk, ek, hrow, hocc, hown⟩ : ∃ Lk, ρ k = some Lk ∧ RowAt w (Lk.ad, Lk.cap) o te 1 m ck ∧ (∀ b, Lk.ad = some b → 0 < m → ch.occ ρ k b.block) ∧ (0 < m → ch.own = true) := by
    have hh := h.I.heap.holds k _ hk
    rcases hch with rfl | ⟨rfl, rfl, hck⟩
    · obtain ⟨Lk, vk, ek, dk, ownk⟩ := hh
      refine ⟨Lk, ek, RowAt.of_own ownk (fun ρ' => by rw [hu0, denL_lits] at dk ⊢; exact dk) o, fun b hb _ => ⟨Lk, b, ek, hb, rfl⟩, fun _ => rfl⟩
    · obtain ⟨Lk, vk, ek, _, _, _, ck2, _⟩ := hh
      refine ⟨Lk, ek, ⟨[], fun ρ' => by rw [hck]; rfl, rfl, Nat.zero_le _, Nat.le_trans ck2 (capOk_le 0), fun h0 => by simp at h0, fun _ h0 => by simp at h0⟩, fun b _ h0 => by omega, fun h0 => by omega⟩
  have hik : i ≠ k := by
    intro q
    subst q
    rw [hi] at hk
    injection hk with hk
    subst hk
    rcases hch with hr | ⟨hr, _⟩
    · injection hr with _ _ _ hcc
      subst hcc
      obtain ⟨v, h0⟩ : ∃ v, c0.cells[c0.cells.length - 1]? = some (.sl i v) := ⟨m, by rw [hc]; simp⟩
      rw [hu0, List.getElem?_map] at h0
      cases hq : us0[(List.map AV.lit us0).length - 1]? with
      | none => rw [hq] at h0; cases h0
      | some x => rw [hq] at h0; cases h0
    · cases hr
  obtain ⟨S, hS⟩ : ∃ S : List (Option Addr × Nat), S = locs L.cap ++ [(Lk.ad, Lk.cap)] := ⟨_, rfl⟩
  have hSe : S[n]? = some (Lk.ad, Lk.cap) := by rw [hS, List.getElem?_append_right (by omega), f2]; simp
  have hSq : ∀ {q : Nat}, q < n → S[q]? = (locs L.cap)[q]? := fun {q} h1 => by rw [hS, List.getElem?_append_left (by omega)]
  have hSl : S.length = n + 1 := by rw [hS]; simp [f2]
  have hSlt : ∀ {q : Nat} {r : Option Addr × Nat}, S[q]? = some r → q < n + 1 := fun {q r} e => by rw [← hSl]; exact (List.getElem?_eq_some_iff.1 e).1
  have hle := envSet_le (L := ⟨none, locsN S⟩) hnx
  obtain ⟨H2, hH2⟩ : ∃ H2, H2 = (nx, Chunk.fam o te 1 (n + 1) (fun q => if q = n then m else len q) (fun q => if q = n then ck else c q)) :: (i, .row t (n + 1) sz (.jbs nx (n + 1) sz (fun q => if q = n then l else hd q) (fun q => if q = n then m else len q))) :: delA k (delA j (delA i H)) := ⟨_, rfl⟩
  have hd' : ∀ {x : Nat} {d : Chunk}, x ≠ nx → x ≠ i → look x H2 = some d → x ≠ j ∧ x ≠ k ∧ look x H = some d := fun {x d} h1 h2 e => by
    rw [hH2, look_cons, if_neg h1, look_cons, if_neg h2, look_delA] at e
    by_cases h3 : x = k
    · rw [if_pos h3] at e; cases e
    · rw [if_neg h3, look_delA] at e
      by_cases h4 : x = j
      · rw [if_pos h4] at e; cases e
      · rw [if_neg h4, look_delA, if_neg h2] at e
        exact ⟨h4, h3, e⟩
  have hnxd : ∀ {d : Chunk}, look nx H2 = some d → d = Chunk.fam o te 1 (n + 1) (fun q => if q = n then m else len q) (fun q => if q = n then ck else c q) := fun {d} e => by
    rw [hH2, look_cons, if_pos rfl] at e
    exact (Option.some.inj e).symm
  have hid : ∀ {d : Chunk}, look i H2 = some d → d = .row t (n + 1) sz (.jbs nx (n + 1) sz (fun q => if q = n then l else hd q) (fun q => if q = n then m else len q)) := fun {d} e => by
    rw [hH2, look_cons, if_neg (by omega), look_cons, if_pos rfl] at e
    exact (Option.some.inj e).symm
  rw [← hH2]
  refine ⟨envSet ρ nx ⟨none, locsN S⟩, holds_ghost h hle (fun x hx => envSet_other _ _ (by have := h.m; (try dsimp only at *); omega)) (fun x L e => ?_) (Nat.le_succ _) (fun x d ex => ?_)
    (fun y y0 => (y ≠ nx ∧ y ≠ j ∧ y ≠ k ∧ y0 = y) ∨ (y = nx ∧ (y0 = j ∨ y0 = k))) (fun y y' y0 h1 h2 => ?_) (fun x d g ex hg => ?_)⟩
  · by_cases hx : x = nx
    · omega
    · rw [envSet_other _ _ hx] at e
      have := h.I.dom x L e
      (try dsimp only at *); omega
  · by_cases hx : x = nx
    · subst hx
      rw [hnxd ex]
      refine ⟨_, envSet_same _ _ _, f1, by rw [locs_N]; exact hSl, fun q r er => ?_, fun ho q q' r r' b b' er er' hb hb' hne p p' => ?_⟩
      · rw [locs_N] at er
        dsimp only
        by_cases hq : q = n
        · subst hq
          rw [hSe] at er
          cases er
          rw [if_pos rfl, if_pos rfl]
          exact hrow
        · rw [if_neg hq, if_neg hq]
          have := hSlt er
          rw [hSq (by omega)] at er
          exact f3 q r er
      · rw [locs_N] at er er'
        subst ho
        dsimp only at p p'
        have l1 := hSlt er
        have l2 := hSlt er'
        by_cases hq : q = n
        · subst hq
          rw [if_pos rfl, Nat.mul_one] at p
          have hq' : q' ≠ q := fun z => hne z.symm
          rw [hSe] at er; cases er
          rw [hSq (by omega)] at er'
          rw [if_neg hq'] at p'
          intro hbb
          exact h.I.heap.apart k _ hk (hown p) j _ hj hjk b.block (hocc b hb p) ⟨L, eL, q', r', b', er', hb', hbb.symm, p'⟩
        · rw [hSq (by omega)] at er
          rw [if_neg hq] at p
          by_cases hq' : q' = n
          · subst hq'
            rw [if_pos rfl, Nat.mul_one] at p'
            rw [hSe] at er'; cases er'
            intro hbb
            exact h.I.heap.apart k _ hk (hown p') j _ hj hjk b'.block (hocc b' hb' p') ⟨L, eL, q, r, b, er, hb, hbb, p⟩
          · rw [hSq (by omega)] at er'
            rw [if_neg hq'] at p'
            exact f4 rfl q q' r r' b b' er er' hb hb' hne p p'
    · by_cases hx2 : x = i
      · subst hx2
        rw [hid ex]
        obtain ⟨L0, vs, e1, e2, e3⟩ := h.I.heap.holds x _ hi
        refine ⟨L0, vs, hle _ _ e1, ?_, e3⟩
        rw [hc] at e2
        obtain ⟨va, vb, g1, g2, rfl⟩ := denL_split e2
        rw [jbs_snoc _ _ _ _ _ l hl (if_pos rfl)]
        refine denL_append ?_ ?_
        · simp only [Cont.cells] at g1 ⊢
          refine denL_map (fun q hq v hv => ?_) g1
          have hq := List.mem_range.1 hq
          have hqn : q / sz < n := by rw [Nat.mul_comm] at hq; exact Nat.div_lt_of_lt_mul hq
          unfold jbsC at hv ⊢
          split
          · rename_i hc1
            rw [if_pos hc1] at hv
            simp only [AV.den, eL, Option.bind_some, Tb.den] at hv
            simp only [AV.den, envSet_same, Option.bind_some, Tb.den, locs_N, hSq hqn]
            rw [if_neg (by omega)]
            exact hv
          · rename_i hc1
            rw [if_neg hc1] at hv
            show AV.den _ (AV.lit ((if q / sz = n then l else hd (q / sz)).getD (q % sz) undef)) = some v
            rw [if_neg (by omega)]
            simpa only [AV.den] using hv
        · obtain ⟨vc, vd, g3, g4, rfl⟩ := denL_split g2
          refine denL_append ?_ ?_
          · rw [denL_lits] at g3 ⊢; exact g3
          · simp only [AV.denL, AV.den, ek, Option.map_some, listO] at g4
            simp only [AV.denL, AV.den, envSet_same, Option.bind_some, Tb.den, locs_N, hSe, Option.map_some, if_true, listO]
            exact g4
      · obtain ⟨_, _, e'⟩ := hd' hx hx2 ex
        exact Chunk.holds_mono hle (h.I.heap.holds x d e')
  · rcases h1 with ⟨a1, a2, a3, a4⟩ | ⟨a1, a2⟩ <;> rcases h2 with ⟨b1, b2, b3, b4⟩ | ⟨b1, b2⟩ <;> omega
  · by_cases hx : x = nx
    · subst hx
      rw [hnxd ex] at hg ⊢
      obtain ⟨L1, e1, q, r, b, er, hb, hbg, ho⟩ := hg
      rw [envSet_same] at e1
      cases e1
      rw [locs_N] at er
      dsimp only at ho
      by_cases hq : q = n
      · subst hq
        rw [hSe] at er
        cases er
        rw [if_pos rfl, Nat.mul_one] at ho
        subst hbg
        exact ⟨k, _, .inr ⟨rfl, .inr rfl⟩, hk, hocc b hb ho, fun _ => hown ho⟩
      · have hlt := hSlt er
        rw [hSq (by omega)] at er
        rw [if_neg hq] at ho
        exact ⟨j, _, .inr ⟨rfl, .inl rfl⟩, hj, ⟨L, eL, q, r, b, er, hb, hbg, ho⟩, id⟩
    · by_cases hx2 : x = i
      · subst hx2
        rw [hid ex] at hg ⊢
        obtain ⟨L0, a', e1, e2⟩ := hg
        rw [envSet_other _ _ hx] at e1
        exact ⟨x, _, .inl ⟨hx, hij, hik, rfl⟩, hi, ⟨L0, a', e1, e2⟩, fun _ => rfl⟩
      · obtain ⟨g1, g2, e'⟩ := hd' hx hx2 ex
        exact ⟨x, d, .inl ⟨hx, g1, g2, rfl⟩, e', Chunk.occ_mono hle (h.I.heap.holds x d e') hg, id⟩

end Go.Sym
