/- What is restored out of readings; the program's next, Restored, Again, in the runs' style. -/
import Derived.Test.YtbpffadffbgloaaGreatDoorTc
import Derived.Test.YtbpffadffbgloaaGreatDoorSymV
set_option linter.unusedVariables false
set_option linter.unusedSimpArgs false
namespace Go.Proofs.YtbpffadffbgloaaGreatDoor
open Go.RowKit Go.Shelf Go.Sym

/-- One more height: its error, and the heights with it. -/
def restStep (b a : Int) (t : Tr) (k : Nat) (l : List (Int × Bool)) : Int × List (Int × Bool) :=
  if (knownB t.holes k && (l.getD k (0, false)).2 && (l.getD (k + b.toNat) (0, false)).2) = true then
    (if (nextS b a (l.getD (k + b.toNat) (0, false)).1 (l.getD k (0, false)).1 (t.vals.getD k 0)).2 ≠ 0 then ((nextS b a (l.getD (k + b.toNat) (0, false)).1 (l.getD k (0, false)).1 (t.vals.getD k 0)).2, l)
      else (0, l ++ [((nextS b a (l.getD (k + b.toNat) (0, false)).1 (l.getD k (0, false)).1 (t.vals.getD k 0)).1, true)]))
  else (0, l ++ [(0, false)])
def restL (b a : Int) (t : Tr) (ends : List Int) : Nat → Int × List (Int × Bool)
  | 0 => (0, ends.map fun x => (x, true))
  | k + 1 => if (restL b a t ends k).1 ≠ 0 then restL b a t ends k else restStep b a t k (restL b a t ends k).2
theorem restL_len (b a : Int) (t : Tr) (ends : List Int) : ∀ k : Nat, (restL b a t ends k).1 = 0 → (restL b a t ends k).2.length = ends.length + k
  | 0, _ => by simp [restL]
  | k + 1, h => by
    unfold restL at h ⊢
    split
    · rename_i h1; rw [if_pos h1] at h; exact absurd h h1
    · rename_i h1
      rw [if_neg h1] at h
      have ih := restL_len b a t ends k (Decidable.not_not.1 h1)
      unfold restStep at h ⊢
      split
      · rename_i h2
        rw [if_pos h2] at h
        split
        · rename_i h3; rw [if_pos h3] at h; exact absurd h h3
        · simp only [List.length_append, List.length_cons, List.length_nil]; omega
      · simp only [List.length_append, List.length_cons, List.length_nil]; omega
/-- All heights so far are in their range; what is not known is 0. -/
theorem restL_ok {b a : Int} {t : Tr} {ends : List Int} (he : ∀ x ∈ ends, readingS x = 0) : ∀ k : Nat, ∀ x ∈ (restL b a t ends k).2, badS x = false ∧ (x.2 = false → x.1 = 0)
  | 0, x, hx => by
    obtain ⟨y, hy, rfl⟩ := List.mem_map.1 hx
    refine ⟨?_, fun h => by cases h⟩
    unfold badS
    rw [he y hy]; rfl
  | k + 1, x, hx => by
    unfold restL at hx
    split at hx
    · exact restL_ok he k x hx
    · unfold restStep at hx
      split at hx
      · split at hx
        · exact restL_ok he k x hx
        · rename_i h3
          rcases List.mem_append.1 hx with hx | hx
          · exact restL_ok he k x hx
          · rcases List.mem_singleton.1 hx with rfl
            refine ⟨?_, fun h => by cases h⟩
            have h4 := Decidable.not_not.1 h3
            unfold nextS at h4 ⊢
            dsimp only at h4 ⊢
            split
            · rfl
            · rename_i h5
              rw [if_neg h5] at h4
              rw [whenS_eq _ _ (by decide)] at h4
              unfold badS
              rw [h4]; rfl
      · rcases List.mem_append.1 hx with hx | hx
        · exact restL_ok he k x hx
        · rcases List.mem_singleton.1 hx with rfl
          exact ⟨rfl, fun _ => rfl⟩
theorem restL_get {b a : Int} {t : Tr} {ends : List Int} (he : ∀ x ∈ ends, readingS x = 0) (k i : Nat) : -1073741824 ≤ ((restL b a t ends k).2.getD i (0, false)).1 ∧ ((restL b a t ends k).2.getD i (0, false)).1 ≤ 1073741824 := by
  by_cases h : i < (restL b a t ends k).2.length
  · have hm : (restL b a t ends k).2.getD i (0, false) ∈ (restL b a t ends k).2 := by rw [List.getD_eq_getElem?_getD, List.getElem?_eq_getElem h]; exact List.getElem_mem h
    obtain ⟨h1, h2⟩ := restL_ok he k _ hm
    generalize (restL b a t ends k).2.getD i (0, false) = x at *
    cases hx : x.2 with
    | false => rw [h2 hx]; exact ⟨by decide, by decide⟩
    | true =>
      unfold badS at h1
      rw [hx] at h1
      have : readingS x.1 = 0 := by simpa using h1
      unfold readingS at this
      rwa [withinS_eq] at this
  · rw [List.getD_eq_getElem?_getD, List.getElem?_eq_none (by omega)]
    exact ⟨by decide, by decide⟩
/-- Once an error, always. -/
theorem restL_err {b a : Int} {t : Tr} {ends : List Int} {k : Nat} (h : (restL b a t ends k).1 ≠ 0) : ∀ m : Nat, k ≤ m → (restL b a t ends m).1 = (restL b a t ends k).1
  | m, hm => by
    induction m with
    | zero => obtain rfl : k = 0 := by omega
              rfl
    | succ m ih =>
      by_cases e : k = m + 1
      · subst e; rfl
      · have ih := ih (by omega)
        have e2 : restL b a t ends (m + 1) = restL b a t ends m := by rw [restL, if_pos (by rw [ih]; exact h)]
        rw [e2]; exact ih

/-- A sum of integers that may wrap. -/
def custWrap : Custom := ⟨fun o l => match o.op, l with
  | .binOp .add t _ _ _, [.lit (.int .i64 a), .lit (.int .i64 b)] => match Nat.beq t 3 with
    | true => some (.lit (.int .i64 (IntKind.i64.wrap (a + b))))
    | false => none
  | _, _ => none⟩
theorem custWrap_ok : custWrap.ok Tryz.prog := by
  intro o l r h ρ w e vs hd hv
  dsimp only [custWrap] at h
  split at h
  · rename_i t x y yt a b ho
    split at h
    · rename_i ht
      cases Nat.eq_of_beq_eq_true ht
      cases h
      simp only [AV.denL, AV.den, listO, Option.map_some, Option.some.injEq] at hd
      subst hd
      rw [ho] at hv
      simp only [Op.operands, List.map_cons, List.map_nil, List.cons.injEq, and_true] at hv
      obtain ⟨e1, e2⟩ := hv
      refine ⟨_, rfl, ?_⟩
      have hb : binV Tryz.prog .add 3 (.int .i64 a) (.int .i64 b) = some (.int .i64 (IntKind.i64.wrap (a + b))) := rfl
      have := binV_run hb x y w
      simp only [execOp, ho, Sem.run_bind, e1, e2] at this ⊢
      rw [this]
      rfl
    · cases h
  · cases h

theorem addAll_ends (l : List Int) : addAll (l.map fun x => (x, true)) = (l, []) := by
  suffices h : ∀ m : List Int, addAll (m.reverse.map fun x => (x, true)) = (m.reverse, []) by
    have := h l.reverse
    rwa [List.reverse_reverse] at this
  intro m
  induction m with
  | nil => rfl
  | cons q m ih => rw [List.reverse_cons, List.map_append, List.map_cons, List.map_nil, addAll_snoc, ih]; rfl
theorem snd_get (l : List (Int × Bool)) (i : Nat) : (l.map (·.2)).getD i false = (l.getD i (0, false)).2 := by
  simp only [List.getD_eq_getElem?_getD, List.getElem?_map]
  cases l[i]? <;> rfl

def restE1 (b a : Int) (t : Tr) (ends : List Int) : Int := firstS [chordS b a, traceS t, whenS (decide ((ends.length : Int) ≠ IntKind.i64.wrap (b + a))) 2]
def restE3 (b : Int) (t : Tr) (ends : List Int) : Int := firstS [whenS (decide (t.first < b)) 14, whenS (decide (4096 < (ends.length : Int) + t.vals.length)) 5, whenS (decide (100000000 < t.first - b + ((ends.length : Int) + t.vals.length))) 4]
/-- The heights, checks aside. -/
def restR (b a : Int) (t : Tr) (ends : List Int) : Tr × Int :=
  if (restL b a t ends t.vals.length).1 ≠ 0 then (⟨0, [], []⟩, (restL b a t ends t.vals.length).1) else (⟨t.first - b, (addAll (restL b a t ends t.vals.length).2).1, (addAll (restL b a t ends t.vals.length).2).2⟩, 0)
def RestoredS (b a : Int) (t : Tr) (ends : List Int) : Tr × Int :=
  if restE1 b a t ends ≠ 0 then (⟨0, [], []⟩, restE1 b a t ends) else if firstS (ends.map readingS) ≠ 0 then (⟨0, [], []⟩, firstS (ends.map readingS)) else
  if restE3 b t ends ≠ 0 then (⟨0, [], []⟩, restE3 b t ends) else restR b a t ends

def PNext_i (b a here back reading : Int) : Inst := { f := 79, hin := [], args := [.agg [i64 b, i64 a], i64 here, i64 back, i64 reading], hout := [], ret := .tup [i64 (nextS b a here back reading).1, i64 (nextS b a here back reading).2], σ := [] }
theorem PNext_s (b a here back reading : Int) (b0 : 1 ≤ b) (b1 : b ≤ 32) (a0 : 1 ≤ a) (a1 : a ≤ 32)
    (x0 : -1073741824 ≤ here ∧ here ≤ 1073741824) (x1 : -1073741824 ≤ back ∧ back ≤ 1073741824) (x2 : -1073741824 ≤ reading ∧ reading ≤ 1073741824) : (PNext_i b a here back reading).ok Tryz.prog := by
  refine ⟨⟨_, Tryz.func79, rfl⟩, fun ρ w vs hdom _ hh hd => ?_⟩
  simp only [PNext_i, AV.denL, AV.den, Option.map_some, listO, Option.some.injEq] at hd
  subst hd
  refine (next_c b a here back reading w b0 b1 a0 a1 x0 x1 x2).mono ?_
  rintro e w' ⟨rfl, hb⟩
  exact post_of_lit hb

/-- A call that gives one list of integers of its own. -/
theorem post_of_row1 {hin : List (Nat × Chunk)} {ρ : Env} {w w' : World} {N n : Nat} {e : TypeId} {l : List Int} {u : Value} (hdom : ∀ i L, ρ i = some L → (Sym.look i hin).isSome = true) (hN : Sym.look N hin = none) (hn : n = l.length)
    (h : w'.ownsRow w.heap.size e 1 u l.length (Go.Proofs.YtbpffadffbgloaaGreatDoor.ints l)) (hb : Below w.heap.size w w') : CallPost hin [(N, .row e n 1 (.ints .i64 l))] (.sl N n) ρ w (.returned u) w' := by
  subst hn
  have hno : ρ N = none := by
    cases e : ρ N with
    | none => rfl
    | some L => have := hdom N L e; rw [hN] at this; cases this
  let ρ' : Env := fun i => if i = N then some (locV u) else ρ i
  have e1 : ρ' N = some (locV u) := by simp [ρ']
  obtain ⟨a1, a2⟩ := row_of_own h e1 (intsC_cells l)
  have only : ∀ {j : Nat} {c : Chunk}, Sym.look j [(N, Chunk.row e l.length 1 (.ints .i64 l))] = some c → j = N ∧ c = .row e l.length 1 (.ints .i64 l) := by
    intro j c e
    rw [look_cons] at e
    split at e
    · rename_i hj; cases e; exact ⟨hj, rfl⟩
    · cases e
  refine ⟨ρ', _, rfl, a2, fun i L e => ?_, ⟨fun i c e => ?_, fun i c e _ j d e' hne => ?_⟩, fun g hg => ?_, Sym.Touch.of_below hb⟩
  · have : i ≠ N := by rintro rfl; rw [hno] at e; cases e
    simp [ρ', this, e]
  · obtain ⟨rfl, rfl⟩ := only e; exact a1
  · obtain ⟨rfl, _⟩ := only e
    obtain ⟨rfl, _⟩ := only e'
    exact absurd rfl hne
  · obtain ⟨i, c, e, ho⟩ := hg
    obtain ⟨rfl, rfl⟩ := only e
    obtain ⟨L, a, e3, e4, rfl⟩ := ho
    obtain ⟨A, cap, rfl, _⟩ := own_form h
    rw [e1] at e3
    cases e3
    simp only [locV] at e4
    subst e4
    exact .inl (own_base h rfl)
def PMapped_i (l : List Int) (σ : Sym.Ren) : Inst := { f := 75, hin := [(0, .ro l.length 1 (.ints .i64 l))], args := [.sl 0 l.length, .fn 76 [] []], hout := [(1, .row 30 (l.map readingS).length 1 (.ints .i64 (l.map readingS)))], ret := .sl 1 (l.map readingS).length, σ := σ }
theorem PMapped_s (l : List Int) (σ : Sym.Ren) (hl : l.length ≤ 1048576) : (PMapped_i l σ).ok Tryz.prog := by
  refine ⟨⟨_, Tryz.func75, rfl⟩, fun ρ w vs hdom _ hh hd => ?_⟩
  obtain ⟨L1, p1, p2⟩ := rd_of_ro (hh.holds 0 _ rfl) (intsC_cells _) (by decide)
  simp only [PMapped_i, AV.denL, AV.den, p1, Option.map_some, Option.bind_some, listO, Option.some.injEq] at hd
  subst hd
  refine (mapped_reading_c _ l w p2 hl).mono ?_
  rintro e w' ⟨u, rfl, h, hb, _⟩
  exact post_of_row1 hdom rfl rfl h hb
/-- As many equal truth values. -/
def PRepeat_i (n : Nat) (σ : Sym.Ren) : Inst := { f := 77, hin := [(0, .ro 1 1 (.exp [bl true]))], args := [.sl 0 1, i64 n], hout := [(1, .row 4 n 1 (.bools (List.replicate n true)))], ret := .sl 1 n, σ := σ }
theorem PRepeat_s (n : Nat) (σ : Sym.Ren) (hn : n ≤ 1000000) : (PRepeat_i n σ).ok Tryz.prog := by
  refine ⟨⟨_, Tryz.func77, rfl⟩, fun ρ w vs hdom _ hh hd => ?_⟩
  obtain ⟨L, e1, e2⟩ := rd_of_ro (vs := [.bool true]) (hh.holds 0 _ rfl) rfl (by decide)
  simp only [PRepeat_i, AV.denL, AV.den, e1, Option.map_some, listO, Option.some.injEq] at hd
  subst hd
  obtain ⟨q1, A, cap, q2, q3, q4, q5⟩ := e2
  injection q2 with q2 q6 q7
  obtain ⟨ad, p1, p2, p3⟩ := q5 (by decide)
  have hc0 := p3 0 (.bool true) rfl
  rw [q2, p1]
  have ha : ad.add 0 = ad := by simp [Addr.add]
  rw [ha] at hc0
  refine (Repeat_c ad L.cap true n w hc0 (by omega)).mono ?_
  rintro e w' ⟨g, rfl, g1, g2, g3⟩
  have hno : ρ 1 = none := by
    cases e : ρ 1 with
    | none => rfl
    | some L' => have := hdom 1 L' e; cases this
  let ρ' : Env := fun j => if j = 1 then some ⟨some ⟨g, 0, none⟩, n⟩ else ρ j
  have e1' : ρ' 1 = some ⟨some ⟨g, 0, none⟩, n⟩ := by simp [ρ']
  have hrow : (Chunk.row 4 n 1 (.bools (List.replicate n true))).holds ρ' 1 w' :=
    row_of_blk (vs := List.replicate n (.bool true)) e1' (by simp [Cont.cells]) (by simp) (by unfold maxLen; omega) g1
  have only : ∀ {j : Nat} {c : Chunk}, Sym.look j [(1, Chunk.row 4 n 1 (.bools (List.replicate n true)))] = some c → j = 1 ∧ c = .row 4 n 1 (.bools (List.replicate n true)) := by
    intro j c e
    rw [look_cons] at e
    split at e
    · rename_i hj; cases e; exact ⟨hj, rfl⟩
    · cases e
  refine ⟨ρ', _, rfl, by simp [PRepeat_i, AV.den, e1'], fun j L' e => ?_, ⟨fun j c e => ?_, fun j c e _ j' c' e' hne => ?_⟩, fun g' hg => ?_, Sym.Touch.of_below g3⟩
  · have : j ≠ 1 := by rintro rfl; rw [hno] at e; cases e
    simp [ρ', this, e]
  · obtain ⟨rfl, rfl⟩ := only e
    exact hrow
  · obtain ⟨rfl, _⟩ := only e
    obtain ⟨rfl, _⟩ := only e'
    exact absurd rfl hne
  · obtain ⟨j, c, e, ho⟩ := hg
    obtain ⟨rfl, rfl⟩ := only e
    obtain ⟨L', a', o1, o2, o3⟩ := ho
    rw [e1'] at o1
    cases o1; cases o2; subst o3
    exact .inl g2

end Go.Proofs.YtbpffadffbgloaaGreatDoor
