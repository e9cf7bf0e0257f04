/- Drawn regions with appends to rows of the call's own: such an append has its row for itself until it is run. No program in sight. Printed by a program from the text SB. -/
import Derived.Test.YtlhgddgoblliaaaGreatDoorSymP
set_option linter.unusedVariables false
set_option linter.unusedSimpArgs false
namespace Go.Sym.X
open Go.RowKit Go.Sym

/-- An append to a row that it has for itself. -/
def stepA (cfg : Cfg) (o : Oper) (T : List (Nat × AV)) (H : List (Nat × Chunk)) (k : Nat) (ch : Chunk) (nx : Nat) : Option (AV × List (Nat × Chunk) × Nat × List Cd) :=
  match o.guard, o.op, ch with
  | none, .call ⟨.builtin .append, args, ts⟩, .row el' n' sz' c => match args.toList, ts.toList with
    | [x, y], [t, t'] => match Nat.beq t t', look t cfg.tys, ev cfg T [] x with
      | true, some ⟨.slice el, _, _, _⟩, some (.sl i n, acc1) => match look el cfg.tys, ev cfg T acc1 y with
        | some ti, some (.sl j m, acc2) => match Nat.beq ti.zero.cells.size ti.size && Nat.blt 0 ti.size && Nat.ble ti.bytes 16777216 && Nat.beq i k && Nat.beq el el' && Nat.beq sz' ti.size, look j H with
          | true, some (.row _ m' sz d) => match Nat.beq sz ti.size, oneC d acc2, nxt nx with
            | true, some acc3, some nx' => some (.sl nx (n + m), [(nx, .row el (n + m) sz (catC c d))], nx', cd (m = m' ∧ n = n' ∧ n + m ≤ 1048576) :: acc3)
            | _, _, _ => none
          | _, _ => none
        | _, _ => none
      | _, _, _ => none
    | _, _ => none
  | none, .slice t x none (some hi) none, .row el' n' sz' c => match look t cfg.tys, ev cfg T [] x with
    | some ⟨.slice el, _, _, _⟩, some (.sl i _, acc1) => match ev cfg T acc1 hi, look el cfg.tys with
      | some (.lit (.int _ q), acc2), some _ => match Nat.beq i k, sliceC c 0 q.toNat sz', nxt nx with
        | true, some c', some nx' => some (.sl nx q.toNat, [(nx, .row el' q.toNat sz' c')], nx', cd (0 ≤ q ∧ q ≤ n') :: acc2)
        | _, _, _ => none
      | _, _ => none
    | _, _ => none
  | _, _, _ => none
def stepX (cfg : Cfg) (t : Told) (X : List (Nat × (Nat × Chunk))) (ops : List Oper) (i : Nat) (o : Oper) (T : List (Nat × AV)) (H : List (Nat × Chunk)) (nx : Nat) (acc : List Cd) : Option (AV × List (Nat × Chunk) × Nat × List Cd) :=
  match look i X with
  | some (k, ch) => stepA cfg o T H k ch nx
  | none => stepE cfg t ops i o T H nx acc

/-- Y = (k, j): the row k is made by the operation j of the region; whether it is made by now. -/
def made (Y : Option (Nat × Nat)) (D : Nat → Bool) (k : Nat) : Bool := match Y with
  | some (k0, j) => match Nat.beq k0 k with
    | true => D j
    | false => true
  | none => true
theorem made_src {Y : Option (Nat × Nat)} {D : Nat → Bool} {k j : Nat} (h : Y = some (k, j)) : made Y D k = D j := by
  subst h; simp [made]
theorem made_none {Y : Option (Nat × Nat)} {D : Nat → Bool} {k : Nat} (h : ∀ j, Y ≠ some (k, j)) : made Y D k = true := by
  unfold made
  split
  · rename_i k0 j
    split
    · rename_i hb; cases Nat.eq_of_beq_eq_true hb; exact absurd rfl (h j)
    · rfl
  · rfl
theorem src_dec (Y : Option (Nat × Nat)) (k : Nat) : (∃ j, Y = some (k, j)) ∨ ∀ j, Y ≠ some (k, j) := Classical.em _ |>.imp id fun h j e => h ⟨j, e⟩
/-- What an operation makes, without the row that is held back. -/
def cutN (Y : Option (Nat × Nat)) (i : Nat) (N : List (Nat × Chunk)) : List (Nat × Chunk) := match Y with
  | some (k0, j) => match Nat.beq j i with
    | true => delA k0 N
    | false => N
  | none => N
theorem cutN_look {Y : Option (Nat × Nat)} {i : Nat} {N : List (Nat × Chunk)} {k : Nat} {c : Chunk} (h : look k (cutN Y i N) = some c) : look k N = some c ∧ Y ≠ some (k, i) := by
  unfold cutN at h
  split at h
  · rename_i k0 j
    split at h
    · rename_i hb
      cases Nat.eq_of_beq_eq_true hb
      have := look_del h
      exact ⟨this.2, fun e => by cases e; exact this.1 rfl⟩
    · rename_i hb
      refine ⟨h, fun e => ?_⟩
      cases e
      simp at hb
  · exact ⟨h, fun e => by cases e⟩
/-- The rows of those that are not run yet. -/
def xE (Y : Option (Nat × Nat)) (D : Nat → Bool) : List (Nat × (Nat × Chunk)) → List (Nat × Chunk)
  | [] => []
  | (i, p) :: l => match D i, made Y D p.1 with
    | false, true => p :: xE Y D l
    | _, _ => xE Y D l
theorem xE_mem {Y : Option (Nat × Nat)} {D : Nat → Bool} {k : Nat} {c : Chunk} : ∀ {X : List (Nat × (Nat × Chunk))}, look k (xE Y D X) = some c → ∃ i, (i, (k, c)) ∈ X ∧ D i = false ∧ made Y D k = true
  | [], h => by cases h
  | (i, (k', c')) :: X, h => by
    simp only [xE] at h
    split at h
    · rename_i hD hM
      rw [look_cons] at h
      split at h
      · rename_i e; subst e; cases h; exact ⟨i, List.mem_cons_self, hD, hM⟩
      · obtain ⟨j, h1, h2⟩ := xE_mem h; exact ⟨j, List.mem_cons_of_mem _ h1, h2⟩
    · obtain ⟨j, h1, h2⟩ := xE_mem h; exact ⟨j, List.mem_cons_of_mem _ h1, h2⟩
theorem xE_has {Y : Option (Nat × Nat)} {D : Nat → Bool} {k : Nat} {c : Chunk} {i : Nat} (hD : D i = false) (hM : made Y D k = true) : ∀ {X : List (Nat × (Nat × Chunk))}, (i, (k, c)) ∈ X → ∃ c', look k (xE Y D X) = some c'
  | [], h => by cases h
  | (j, (k', c')) :: X, h => by
    simp only [xE]
    rcases List.mem_cons.1 h with h | h
    · cases h
      rw [hD, hM]
      exact ⟨c, by rw [look_cons, if_pos rfl]⟩
    · obtain ⟨c2, h2⟩ := xE_has hD hM h
      split
      · rw [look_cons]
        split
        · exact ⟨_, rfl⟩
        · exact ⟨c2, h2⟩
      · exact ⟨c2, h2⟩

section
variable {cfg : Cfg} {P : Program} {T : List (Nat × AV)} {H : List (Nat × Chunk)} {ρ : Env} {a : Act} {w : World}

/-- What the results of the stable operations are. -/
def Good (cfg : Cfg) (t : Told) (Y : Option (Nat × Nat)) (X : List (Nat × (Nat × Chunk))) (ops : Array Oper) (cl : List Nat) (T0 : List (Nat × AV)) (H0 : List (Nat × Chunk)) (nx0 : Nat) : List Res → Prop
  | [] => True
  | r :: R => Good cfg t Y X ops cl T0 H0 nx0 R ∧ r.i = R.length ∧ r.lo = nxOf nx0 R ∧ r.lo ≤ r.hi ∧ (∀ k c, look k r.N = some c → r.lo ≤ k ∧ k < r.hi) ∧
    (∀ d, r.dst = some d → d < cfg.nt ∧ look d T0 = none ∧ ∀ r' ∈ R, r'.dst ≠ some d) ∧
    ∃ o c cs N, ops[r.i]? = some o ∧ r.dst = o.dst ∧ nth cl r.i = some c ∧ stepX cfg t X ops.toList r.i o (tE (bitAt c) R ++ T0) (hE (bitAt c) R ++ H0) r.lo [] = some (r.av, N, r.hi, cs) ∧ All cs ∧ r.N = cutN Y r.i N ∧ (∀ k c, look k N = some c → r.lo ≤ k ∧ k < r.hi) ∧ ∀ k i c, (i, (k, c)) ∈ X → Y = some (k, r.i) → look k N = some c

variable {t : Told} {Y : Option (Nat × Nat)} {X : List (Nat × (Nat × Chunk))} {ops : Array Oper} {cl : List Nat} {T0 : List (Nat × AV)} {H0 : List (Nat × Chunk)} {nx0 : Nat}

theorem Good.ge : ∀ {R : List Res}, Good cfg t Y X ops cl T0 H0 nx0 R → nx0 ≤ nxOf nx0 R ∧ ∀ r ∈ R, nx0 ≤ r.lo ∧ r.hi ≤ nxOf nx0 R ∧ r.i < R.length
  | [], _ => ⟨Nat.le_refl _, fun r h => by cases h⟩
  | r :: R, ⟨h, h1, h2, h3, _⟩ => by
    obtain ⟨a1, a2⟩ := Good.ge h
    refine ⟨by show nx0 ≤ r.hi; omega, fun r' hr => ?_⟩
    rcases List.mem_cons.1 hr with rfl | hr
    · exact ⟨by omega, Nat.le_refl _, by simp; omega⟩
    · obtain ⟨b1, b2, b3⟩ := a2 r' hr
      exact ⟨b1, by show _ ≤ r.hi; omega, by simp; omega⟩
theorem Good.uniq : ∀ {R : List Res}, Good cfg t Y X ops cl T0 H0 nx0 R → ∀ r ∈ R, ∀ r' ∈ R, r.i ≠ r'.i → (∀ d, r.dst = some d → r'.dst ≠ some d) ∧ ∀ k, ¬ (r.lo ≤ k ∧ k < r.hi ∧ r'.lo ≤ k ∧ k < r'.hi)
  | [], _, r, hr, _, _, _ => by cases hr
  | x :: R, ⟨h, h1, h2, h3, h4, h5, h6⟩, r, hr, r', hr', hne => by
    have ge := Good.ge h
    rcases List.mem_cons.1 hr with rfl | hr2 <;> rcases List.mem_cons.1 hr' with rfl | hr3
    · exact absurd rfl hne
    · refine ⟨fun d hd => (h5 d hd).2.2 r' hr3, fun k hk => ?_⟩
      have := (ge.2 r' hr3).2.1; omega
    · refine ⟨fun d hd hd' => (h5 d hd').2.2 r hr2 hd, fun k hk => ?_⟩
      have := (ge.2 r hr2).2.1; omega
    · exact Good.uniq h r hr2 r' hr3 hne
theorem Good.key : ∀ {R : List Res}, Good cfg t Y X ops cl T0 H0 nx0 R → ∀ r ∈ R, (∀ d, r.dst = some d → d < cfg.nt ∧ look d T0 = none) ∧ (∀ k c, look k r.N = some c → r.lo ≤ k ∧ k < r.hi) ∧
    ∃ R', (∀ x ∈ R', x ∈ R) ∧ ∃ o c cs N, ops[r.i]? = some o ∧ r.dst = o.dst ∧ nth cl r.i = some c ∧ stepX cfg t X ops.toList r.i o (tE (bitAt c) R' ++ T0) (hE (bitAt c) R' ++ H0) r.lo [] = some (r.av, N, r.hi, cs) ∧ All cs ∧ r.N = cutN Y r.i N ∧ (∀ k c, look k N = some c → r.lo ≤ k ∧ k < r.hi) ∧ ∀ k i c, (i, (k, c)) ∈ X → Y = some (k, r.i) → look k N = some c
  | [], _, r, hr => by cases hr
  | x :: R, ⟨h, h1, h2, h3, h4, h5, h6⟩, r, hr => by
    rcases List.mem_cons.1 hr with rfl | hr
    · exact ⟨fun d hd => ⟨(h5 d hd).1, (h5 d hd).2.1⟩, h4, R, fun x hx => List.mem_cons_of_mem _ hx, h6⟩
    · obtain ⟨a1, a2, R', a3, a4⟩ := Good.key h r hr
      exact ⟨a1, a2, R', fun x hx => List.mem_cons_of_mem _ (a3 x hx), a4⟩
theorem Good.get : ∀ {R : List Res}, Good cfg t Y X ops cl T0 H0 nx0 R → ∀ j, j < R.length → ∃ r ∈ R, r.i = j
  | [], _, j, hj => by simp at hj
  | x :: R, ⟨h, h1, _⟩, j, hj => by
    by_cases e : j = R.length
    · exact ⟨x, List.mem_cons_self, by omega⟩
    · obtain ⟨r, hr, hi⟩ := Good.get h j (by simp at hj; omega)
      exact ⟨r, List.mem_cons_of_mem _ hr, hi⟩
theorem Good.same : ∀ {R : List Res}, Good cfg t Y X ops cl T0 H0 nx0 R → ∀ r ∈ R, ∀ r' ∈ R, r.i = r'.i → r = r'
  | [], _, r, hr, _, _, _ => by cases hr
  | x :: R, ⟨h, h1, h2, _⟩, r, hr, r', hr', he => by
    have ge := Good.ge h
    rcases List.mem_cons.1 hr with rfl | hr2 <;> rcases List.mem_cons.1 hr' with rfl | hr3
    · rfl
    · have := (ge.2 r' hr3).2.2; omega
    · have := (ge.2 r hr2).2.2; omega
    · exact Good.same h r hr2 r' hr3 he

theorem Good.tIn {R : List Res} (hg : Good cfg t Y X ops cl T0 H0 nx0 R) {D : Nat → Bool} : ∀ {S : List Res}, (∀ x ∈ S, x ∈ R) → ∀ r ∈ S, D r.i = true → ∀ k, r.dst = some k → look k (tE D S) = some r.av
  | [], _, r, hr, _, _, _ => by cases hr
  | x :: S, hS, r, hr, hD, k, hk => by
    simp only [tE]
    have hS' : ∀ y ∈ S, y ∈ R := fun y hy => hS y (List.mem_cons_of_mem _ hy)
    by_cases he : r.i = x.i
    · have : r = x := hg.same r (hS r hr) x (hS x List.mem_cons_self) he
      subst this
      rw [hD]
      simp only [hk]
      rw [look_cons, if_pos rfl]
    · have hrS : r ∈ S := by
        rcases List.mem_cons.1 hr with rfl | hr
        · exact absurd rfl he
        · exact hr
      have ih := Good.tIn hg hS' r hrS hD k hk
      split
      · split
        · rename_i d hd
          rw [look_cons, if_neg]
          · exact ih
          · rintro rfl
            exact (hg.uniq r (hS r hr) x (hS x List.mem_cons_self) he).1 k hk hd
        · exact ih
      · exact ih
theorem Good.hIn {R : List Res} (hg : Good cfg t Y X ops cl T0 H0 nx0 R) {D : Nat → Bool} : ∀ {S : List Res}, (∀ x ∈ S, x ∈ R) → ∀ r ∈ S, D r.i = true → ∀ k c, look k r.N = some c → look k (hE D S) = some c
  | [], _, r, hr, _, _, _, _ => by cases hr
  | x :: S, hS, r, hr, hD, k, c, hk => by
    simp only [hE]
    have hS' : ∀ y ∈ S, y ∈ R := fun y hy => hS y (List.mem_cons_of_mem _ hy)
    by_cases he : r.i = x.i
    · have : r = x := hg.same r (hS r hr) x (hS x List.mem_cons_self) he
      subst this
      rw [hD]
      simp only
      rw [look_append, hk]; rfl
    · have hrS : r ∈ S := by
        rcases List.mem_cons.1 hr with rfl | hr
        · exact absurd rfl he
        · exact hr
      have ih := Good.hIn hg hS' r hrS hD k c hk
      split
      · rw [look_append]
        have : look k x.N = none := by
          cases hx : look k x.N with
          | none => rfl
          | some d =>
            have a1 := (hg.key r (hS r hr)).2.1 k c hk
            have a2 := (hg.key x (hS x List.mem_cons_self)).2.1 k d hx
            exact absurd ⟨a1.1, a1.2, a2.1, a2.2⟩ ((hg.uniq r (hS r hr) x (hS x List.mem_cons_self) he).2 k)
        rw [this]
        simpa using ih
      · exact ih


/-- The rows that are held back: each one once, and not among the others. -/
structure XOk (Y : Option (Nat × Nat)) (X : List (Nat × (Nat × Chunk))) (cl : List Nat) (m : Nat) (H0 : List (Nat × Chunk)) (nx0 : Nat) : Prop where
  h0 : ∀ i c, look i H0 = some c → i < nx0
  lt : ∀ x ∈ X, (∀ j, Y ≠ some (x.2.1, j)) → x.2.1 < nx0
  out : ∀ x ∈ X, look x.2.1 H0 = none
  one : ∀ x ∈ X, ∀ y ∈ X, x.2.1 = y.2.1 → x = y
  src : ∀ x ∈ X, ∀ j, Y = some (x.2.1, j) → j < m ∧ ∀ c, nth cl x.1 = some c → bitAt c j = true
/-- Part of the results are known. -/
def Part (F : Frm) (Y : Option (Nat × Nat)) (X : List (Nat × (Nat × Chunk))) (T0 : List (Nat × AV)) (H0 : List (Nat × Chunk)) (nx0 : Nat) (R : List Res) (D : Nat → Bool) (ρ : Env) (a : Act) (w : World) : Prop :=
  Interp F (UD nx0 R D) (fun k => look k (tE D R ++ T0)) (fun k => look k (hE D R ++ (xE Y D X ++ H0))) ρ a w

theorem Good.tSub {R : List Res} (hg : Good cfg t Y X ops cl T0 H0 nx0 R) {D D' : Nat → Bool} {S S' : List Res} (hS : ∀ x ∈ S, x ∈ R) (hS' : ∀ x ∈ S', x ∈ R) (hsub : ∀ x ∈ S, D x.i = true → D' x.i = true ∧ x ∈ S') {k : Nat} {v : AV}
    (h : look k (tE D S ++ T0) = some v) : look k (tE D' S' ++ T0) = some v := by
  rw [look_append] at h ⊢
  cases h1 : look k (tE D S) with
  | some u =>
    rw [h1] at h
    cases h
    obtain ⟨r, h2, h3, h4, rfl⟩ := tE_look h1
    obtain ⟨h5, h6⟩ := hsub r h2 h3
    rw [hg.tIn hS' r h6 h5 k h4]; rfl
  | none =>
    rw [h1] at h
    have h : look k T0 = some v := by simpa using h
    cases h2 : look k (tE D' S') with
    | none => simpa using h
    | some u =>
      obtain ⟨r, h3, _, h4, _⟩ := tE_look h2
      have := ((hg.key r (hS' r h3)).1 k h4).2
      rw [this] at h; cases h
theorem Good.hSub {R : List Res} (hg : Good cfg t Y X ops cl T0 H0 nx0 R) (hH0 : ∀ i c, look i H0 = some c → i < nx0) {D D' : Nat → Bool} {S S' : List Res} (hS : ∀ x ∈ S, x ∈ R) (hS' : ∀ x ∈ S', x ∈ R) (hsub : ∀ x ∈ S, D x.i = true → D' x.i = true ∧ x ∈ S') {k : Nat} {v : Chunk}
    (h : look k (hE D S ++ H0) = some v) : look k (hE D' S' ++ H0) = some v := by
  rw [look_append] at h ⊢
  cases h1 : look k (hE D S) with
  | some u =>
    rw [h1] at h
    cases h
    obtain ⟨r, h2, h3, h4⟩ := hE_look h1
    obtain ⟨h5, h6⟩ := hsub r h2 h3
    rw [hg.hIn hS' r h6 h5 k v h4]; rfl
  | none =>
    rw [h1] at h
    have h : look k H0 = some v := by simpa using h
    cases h2 : look k (hE D' S') with
    | none => simpa using h
    | some u =>
      obtain ⟨r, h3, _, h4⟩ := hE_look h2
      have a1 := (hg.key r (hS' r h3)).2.1 k u h4
      have a2 := (hg.ge.2 r (hS' r h3)).1
      have a3 := hH0 k v h
      omega


section
variable {m : Nat}
theorem XOk.has (hX : XOk Y X cl m H0 nx0) {D : Nat → Bool} {i k : Nat} {c : Chunk} (h : (i, (k, c)) ∈ X) (hD : D i = false) (hM : made Y D k = true) : look k (xE Y D X) = some c := by
  obtain ⟨c', h1⟩ := xE_has hD hM h
  obtain ⟨j, h2, _⟩ := xE_mem h1
  have := hX.one _ h _ h2 rfl
  cases this
  exact h1
theorem XOk.base (hX : XOk Y X cl m H0 nx0) {D : Nat → Bool} {k : Nat} {c : Chunk} (h : look k H0 = some c) : look k (xE Y D X ++ H0) = some c := by
  rw [look_append]
  cases h1 : look k (xE Y D X) with
  | none => simpa using h
  | some d =>
    obtain ⟨i, h2, _⟩ := xE_mem h1
    have := hX.out _ h2
    rw [show look k H0 = none from this] at h; cases h
theorem XOk.lift (hX : XOk Y X cl m H0 nx0) {R : List Res} (hg : Good cfg t Y X ops cl T0 H0 nx0 R) {D : Nat → Bool} {k : Nat} {c : Chunk} (h : look k (hE D R ++ H0) = some c) : look k (hE D R ++ (xE Y D X ++ H0)) = some c := by
  rw [look_append] at h ⊢
  cases h1 : look k (hE D R) with
  | some u => rw [h1] at h; exact h
  | none => rw [h1] at h; rw [hX.base (by simpa using h)]; rfl
/-- Where a row that is made in the region comes from. -/
theorem Good.src {R : List Res} (hg : Good cfg t Y X ops cl T0 H0 nx0 R) (hX : XOk Y X cl m H0 nx0) (hRl : R.length = m) {x : Nat × (Nat × Chunk)} (hx : x ∈ X) {j : Nat} (hY : Y = some (x.2.1, j)) : ∃ r ∈ R, r.i = j ∧ r.lo ≤ x.2.1 ∧ x.2.1 < r.hi ∧ look x.2.1 r.N = none := by
  obtain ⟨h1, _⟩ := hX.src x hx j hY
  obtain ⟨r, hr, hri⟩ := hg.get j (by omega)
  obtain ⟨_, _, _, _, o, c, cs, N, e1, e2, e3, e4, e5, e6, e7, e8⟩ := hg.key r hr
  obtain ⟨i, k, ch⟩ := x
  have := e8 k i ch hx (by rw [hri]; exact hY)
  have h2 := e7 k ch this
  refine ⟨r, hr, hri, h2.1, h2.2, ?_⟩
  cases e : look k r.N with
  | none => rfl
  | some d =>
    rw [e6] at e
    exact absurd (by rw [hri]; exact hY) (cutN_look e).2
/-- A row that is held back is none of those that are shared. -/
theorem Good.apart {R : List Res} (hg : Good cfg t Y X ops cl T0 H0 nx0 R) (hX : XOk Y X cl m H0 nx0) (hRl : R.length = m) {x : Nat × (Nat × Chunk)} (hx : x ∈ X) {r : Res} (hr : r ∈ R) {d : Chunk} : look x.2.1 r.N ≠ some d := by
  intro h
  have a1 := (hg.key r hr).2.1 _ _ h
  have a2 := (hg.ge.2 r hr).1
  rcases src_dec Y x.2.1 with ⟨j, hY⟩ | hY
  · obtain ⟨r', hr', hri, b1, b2, b3⟩ := hg.src hX hRl hx hY
    by_cases he : r.i = r'.i
    · have := hg.same r hr r' hr' he
      subst this
      rw [b3] at h; cases h
    · exact (hg.uniq r hr r' hr' he).2 _ ⟨a1.1, a1.2, b1, b2⟩
  · have := hX.lt x hx hY
    omega
end

/-- Behind a slice of a row that it has for itself: H0 is what stands besides the row. -/
theorem shrink_ok {F : Frm} {U : Nat → Prop} {T : List (Nat × AV)} {H : List (Nat × Chunk)} (hI : Interp F U (fun k => look k T) (fun k => look k H) ρ a w) {o : Oper} {el : TypeId} {sz : Nat}
    {H0 : List (Nat × Chunk)} (hH0 : ∀ k c, look k H0 = some c → look k H = some c) {L : Loc} {n q : Nat} {xs ys : List Value} (hown : w.ownsRow 0 el sz (.slice L.ad n L.cap) n xs) (hq : q ≤ n) (hys : ys = xs.take (q * sz))
    (hv0 : ∀ g, Value.ownBlock (.slice L.ad q L.cap) = some g → Owned ρ (fun k => look k H) g ∧ ∀ k c, look k H0 = some c → ¬ c.occ ρ k g)
    (hrun : (execOp a.eval o).run P w = .ok (.value (.slice L.ad q L.cap)) w) {cc : Cont} (hcc : AV.denL ρ cc.cells = some ys) {nx : Nat} (hnx : ¬ U nx) (hm : ¬ nx < F.m) :
    MutOk F U (fun k => look k T) P a o ρ w nx (.sl nx q) (fun k => look k ((nx, .row el q sz cc) :: H0)) := by
  have hlen : xs.length = n * sz := hown.1
  have hle0 : q * sz ≤ n * sz := Nat.mul_le_mul_right _ hq
  have h3 : w.ownsRow 0 el sz (.slice L.ad q L.cap) q ys := by
    subst hys
    refine ⟨by rw [List.length_take, hlen]; omega, ?_⟩
    rcases hown.2 with ⟨g1, rfl⟩ | ⟨g, cap, cur, g1, g2, g3, g4, g5, g6, g7⟩
    · injection g1 with g1 g2 g3
      left
      have : q = 0 := by omega
      rw [this, g1, g3]
      exact ⟨rfl, rfl⟩
    · injection g1 with g1 g8 g9
      refine .inr ⟨g, cap, cur, by rw [g1, g9], g2, g3, by omega, g5, g6, ?_⟩
      rw [← g7, List.take_take, Nat.min_eq_left hle0]
  have hnone : ρ nx = none := by
    cases h : ρ nx with
    | none => rfl
    | some L => exact absurd (hI.dom nx L h) hnx
  have hle := envSet_le (L := L) hnone
  have hocc1 : ∀ g, Chunk.occ (envSet ρ nx L) nx g (.row el q sz cc) → Value.ownBlock (.slice L.ad q L.cap) = some g := by
    rintro g ⟨L', b, e1, e2, e3⟩
    rw [envSet_same] at e1
    cases e1
    rw [e2]; simp [Value.ownBlock, e3]
  have hheap : Heap (envSet ρ nx L) (fun k => look k ((nx, .row el q sz cc) :: H0)) w := by
    refine ⟨fun k d e => ?_, fun k d e hdo k' d' e' hne g hg hg' => ?_⟩
    · rw [look_cons] at e
      by_cases hkn : k = nx
      · subst hkn
        rw [if_pos rfl] at e; cases e
        exact ⟨L, _, envSet_same _ _ _, AV.denL_mono hle _ _ hcc, h3⟩
      · rw [if_neg hkn] at e
        exact Chunk.holds_mono hle (hI.heap.holds k d (hH0 k d e))
    · rw [look_cons] at e e'
      have back : ∀ {k d g}, look k H0 = some d → d.occ (envSet ρ nx L) k g → d.occ ρ k g := fun {k d g} e h => Chunk.occ_mono hle (hI.heap.holds k d (hH0 k d e)) h
      by_cases hkn : k = nx
      · subst hkn
        rw [if_pos rfl] at e; cases e
        rw [if_neg hne] at e'
        exact (hv0 g (hocc1 g hg)).2 k' d' e' (back e' hg')
      · rw [if_neg hkn] at e
        by_cases hkn' : k' = nx
        · subst hkn'
          rw [if_pos rfl] at e'; cases e'
          exact (hv0 g (hocc1 g hg')).2 k d e (back e hg)
        · rw [if_neg hkn'] at e'
          exact hI.heap.apart k d (hH0 k d e) hdo k' d' (hH0 k' d' e') hne g (back e hg) (back e' hg')
  refine ⟨_, w, envSet ρ nx L, .inl hrun, by simp [AV.den, envSet_same], hle, hI.step hle (fun i hi => envSet_other _ _ (fun e => hm (e ▸ hi))) ?_ hheap ?_ hI.touch (KeepM.below (Below.refl _ _))⟩
  · intro i L' hi
    by_cases h : i = nx
    · exact .inr h
    · rw [envSet_other _ _ h] at hi; exact .inl (hI.dom i L' hi)
  · rintro g ⟨k, d, e, hdo, hg⟩
    dsimp only at e
    rw [look_cons] at e
    by_cases hkn : k = nx
    · subst hkn
      rw [if_pos rfl] at e; cases e
      exact hI.fresh g (hv0 g (hocc1 g hg)).1
    · rw [if_neg hkn] at e
      exact hI.fresh g ⟨k, d, hH0 k d e, hdo, Chunk.occ_mono hle (hI.heap.holds k d (hH0 k d e)) hg⟩

/-- One more operation. -/
theorem part_step {F : Frm} (hC : CfgOk F cfg) (ht : t.ok F.P) {R : List Res} {m : Nat} (hg : Good cfg t Y X ops cl T0 H0 nx0 R) (hX : XOk Y X cl m H0 nx0) (hRl : R.length = m) (hm : F.m ≤ nx0) {D : Nat → Bool} (hp : Part F Y X T0 H0 nx0 R D ρ a w) {r : Res} (hr : r ∈ R) (hD : D r.i = false)
    (hcl : ∀ c k, nth cl r.i = some c → bitAt c k = true → D k = true) {D' : Nat → Bool} (hD' : ∀ k, D' k = true ↔ (D k = true ∨ k = r.i)) {K : Act → World → Prop} {Q : Exit → Act → World → Prop}
    (hK : ∀ ρ' a' w', Part F Y X T0 H0 nx0 R D' ρ' a' w' → K a' w') : wpOpIn (fen F.rd) 2 F.P ops Q r.i K a w := by
  obtain ⟨k1, k20, R', k3, o, c, cs, N, e1, e2, e3, e4, e5, e6, k2, e8⟩ := hg.key r hr
  have hid : ∀ x ∈ R, x ∈ R := fun _ h => h
  have hsub : ∀ x ∈ R', bitAt c x.i = true → D x.i = true ∧ x ∈ R := fun x hx hb => ⟨hcl c x.i e3 hb, k3 x hx⟩
  have hsubT : ∀ {k v}, look k (tE (bitAt c) R' ++ T0) = some v → look k (tE D R ++ T0) = some v := fun h => hg.tSub k3 hid hsub h
  have hsubH : ∀ {k v}, look k (hE (bitAt c) R' ++ H0) = some v → look k (hE D R ++ (xE Y D X ++ H0)) = some v := fun h => hX.lift hg (hg.hSub hX.h0 k3 hid hsub h)
  have hk : Know cfg F.P (fun k => look k (tE (bitAt c) R' ++ T0)) (fun k => look k (hE (bitAt c) R' ++ H0)) ρ a w :=
    hC.know (Interp.sub hp (U' := UD nx0 R D) (fun _ _ _ h => h) (fun k v h => hsubT h) (fun k v h => hsubH h))
  have hfree : ∀ k, r.lo ≤ k → k < r.hi → ρ k = none := by
    intro k h1 h2
    cases e : ρ k with
    | none => rfl
    | some L =>
      rcases hp.dom k L e with h3 | ⟨r', h3, h4, h5, h6⟩
      · have := (hg.ge.2 r hr).1; omega
      · exact absurd ⟨h1, h2, h5, h6⟩ ((hg.uniq r hr r' h3 (fun e => by rw [e, h4] at hD; cases hD)).2 k)
  have hDD : ∀ i, D' i = false → D i = false := fun i h => by
    cases e : D i with
    | false => rfl
    | true => rw [(hD' i).2 (.inl e)] at h; cases h
  -- what the temporaries are behind it
  have temps : ∀ {k u}, look k (tE D' R ++ T0) = some u → updO (fun k => look k (tE D R ++ T0)) o.dst r.av k = some u := by
    intro k u h
    rw [look_append] at h
    have other : (∀ d, o.dst = some d → k ≠ d) → look k (tE D R ++ T0) = some u → updO (fun k => look k (tE D R ++ T0)) o.dst r.av k = some u := by
      intro hne hl
      cases hd : o.dst with
      | none => simpa [updO] using hl
      | some d => simp only [updO]; rw [upd_other _ _ (hne d hd)]; exact hl
    cases h1 : look k (tE D' R) with
    | some u' =>
      rw [h1] at h; cases h
      obtain ⟨x, x1, x2, x3, rfl⟩ := tE_look h1
      rcases (hD' _).1 x2 with x4 | x4
      · refine other (fun d hd hkd => ?_) (by rw [look_append, hg.tIn hid x x1 x4 k x3]; rfl)
        subst hkd
        exact (hg.uniq x x1 r hr (fun e => by rw [← e, x4] at hD; cases hD)).1 k x3 (by rw [e2]; exact hd)
      · have := hg.same x x1 r hr x4
        subst this
        rw [e2] at x3
        simp only [updO, x3, upd_same]
    | none =>
      rw [h1] at h
      have h : look k T0 = some u := by simpa using h
      refine other (fun d hd hkd => ?_) ?_
      · subst hkd
        have := (k1 k (by rw [e2]; exact hd)).2
        rw [this] at h; cases h
      · rw [look_append]
        cases h2 : look k (tE D R) with
        | none => simpa using h
        | some u2 =>
          obtain ⟨x, x1, x2, x3, _⟩ := tE_look h2
          have := ((hg.key x x1).1 k x3).2
          rw [this] at h; cases h
  have domU : ∀ {ρ' : Env}, (∀ i, ¬ (r.lo ≤ i ∧ i < r.hi) → ρ' i = ρ i) → ∀ i L, ρ' i = some L → UD nx0 R D' i := by
    intro ρ' honly i L e
    by_cases hi : r.lo ≤ i ∧ i < r.hi
    · exact .inr ⟨r, hr, (hD' _).2 (.inr rfl), hi.1, hi.2⟩
    · rw [honly i hi] at e
      rcases hp.dom i L e with h3 | ⟨r', h3, h4, h5⟩
      · exact .inl h3
      · exact .inr ⟨r', h3, (hD' _).2 (.inl h4), h5⟩
  -- what a chunk behind it is
  have chunks : ∀ {k ch}, look k (hE D' R ++ (xE Y D' X ++ H0)) = some ch → (look k N = some ch ∧ r.lo ≤ k ∧ k < r.hi) ∨ (look k N = none ∧ look k (hE D R ++ (xE Y D X ++ H0)) = some ch ∧ ¬ (r.lo ≤ k ∧ k < r.hi) ∧ ∀ x ∈ X, x.1 = r.i → x.2.1 ≠ k) := by
    intro k ch h
    rw [look_append] at h
    have nN : ¬ (r.lo ≤ k ∧ k < r.hi) → look k N = none := fun hnr => by
      cases hx : look k N with
      | none => rfl
      | some d => exact absurd (k2 k d hx) hnr
    cases h1 : look k (hE D' R) with
    | some u' =>
      rw [h1] at h; cases h
      obtain ⟨x, x1, x2, x3⟩ := hE_look h1
      rcases (hD' _).1 x2 with x4 | x4
      · have hne : x.i ≠ r.i := fun e => by rw [← e, x4] at hD; cases hD
        have a1 := (hg.key x x1).2.1 k _ x3
        have hnr : ¬ (r.lo ≤ k ∧ k < r.hi) := fun h => (hg.uniq x x1 r hr hne).2 k ⟨a1.1, a1.2, h.1, h.2⟩
        refine .inr ⟨nN hnr, by rw [look_append, hg.hIn hid x x1 x4 k _ x3]; rfl, hnr, fun y hy _ e => ?_⟩
        subst e
        exact hg.apart hX hRl hy x1 x3
      · have := hg.same x x1 r hr x4
        subst this
        rw [e6] at x3
        have x5 := (cutN_look x3).1
        exact .inl ⟨x5, k2 k _ x5⟩
    | none =>
      rw [h1] at h
      have h : look k (xE Y D' X ++ H0) = some ch := by simpa using h
      rw [look_append] at h
      cases h3 : look k (xE Y D' X) with
      | some d =>
        rw [h3] at h; cases h
        obtain ⟨i, h4, h5, h6⟩ := xE_mem h3
        have hnE : look k (hE D R) = none := by
          cases h2 : look k (hE D R) with
          | none => rfl
          | some u2 =>
            obtain ⟨x, x1, x2, x3⟩ := hE_look h2
            exact absurd x3 (hg.apart hX hRl h4 x1)
        have hother : ∀ x ∈ X, x.1 = r.i → x.2.1 ≠ k := fun y hy hyi e => by
          have := hX.one y hy _ h4 e
          subst this
          rw [(hD' _).2 (.inr hyi)] at h5
          cases h5
        rcases src_dec Y k with ⟨j, hY⟩ | hY
        · by_cases hj : j = r.i
          · subst hj
            have := e8 k i _ h4 hY
            exact .inl ⟨this, k2 k _ this⟩
          · obtain ⟨r', hr', hri, b1, b2, b3⟩ := hg.src hX hRl h4 hY
            have hDj : D j = true := by
              rw [made_src hY] at h6
              rcases (hD' j).1 h6 with h | h
              · exact h
              · exact absurd h hj
            have hnr : ¬ (r.lo ≤ k ∧ k < r.hi) := fun h => (hg.uniq r hr r' hr' (fun e => hj (by rw [← hri, e]))).2 k ⟨h.1, h.2, b1, b2⟩
            refine .inr ⟨nN hnr, ?_, hnr, hother⟩
            rw [look_append, hnE, look_append, hX.has h4 (hDD i h5) (by rw [made_src hY]; exact hDj)]; rfl
        · have hlt : k < nx0 := hX.lt _ h4 hY
          have hnr : ¬ (r.lo ≤ k ∧ k < r.hi) := fun hh => by have := (hg.ge.2 r hr).1; omega
          refine .inr ⟨nN hnr, ?_, hnr, hother⟩
          rw [look_append, hnE, look_append, hX.has h4 (hDD i h5) (made_none hY)]; rfl
      | none =>
        rw [h3] at h
        have h : look k H0 = some ch := by simpa using h
        have hlt := hX.h0 k ch h
        have hnr : ¬ (r.lo ≤ k ∧ k < r.hi) := fun hh => by have := (hg.ge.2 r hr).1; omega
        refine .inr ⟨nN hnr, ?_, hnr, fun y hy hyi e => ?_⟩
        · rw [look_append]
          cases h2 : look k (hE D R) with
          | none => rw [hX.base h]; rfl
          | some u2 =>
            obtain ⟨x, x1, x2, x3⟩ := hE_look h2
            have := ((hg.key x x1).2.1 k _ x3).1
            have := (hg.ge.2 x x1).1
            omega
        · have := hX.out y hy
          rw [e, h] at this
          cases this
  unfold stepX at e4
  split at e4
  · rename_i k0 ch hx
    have hxm : (r.i, (k0, ch)) ∈ X := look_mem hx
    have hfull : look k0 (hE D R ++ (xE Y D X ++ H0)) = some ch := by
      rw [look_append]
      have hM : made Y D k0 = true := by
        rcases src_dec Y k0 with ⟨j, hY⟩ | hY
        · rw [made_src hY]
          exact hcl c j e3 ((hX.src _ hxm j hY).2 c e3)
        · exact made_none hY
      cases h2 : look k0 (hE D R) with
      | none => rw [look_append, hX.has hxm hD hM]; rfl
      | some u2 =>
        obtain ⟨x, x1, x2, x3⟩ := hE_look h2
        exact absurd x3 (hg.apart hX hRl hxm x1)
    have hnot : ∀ {d}, look k0 (hE (bitAt c) R' ++ H0) ≠ some d := by
      intro d h
      rw [look_append] at h
      cases h2 : look k0 (hE (bitAt c) R') with
      | none => rw [h2] at h; rw [show look k0 H0 = none from hX.out _ hxm] at h; cases h
      | some u2 =>
        obtain ⟨x, x1, x2, x3⟩ := hE_look h2
        exact absurd x3 (hg.apart hX hRl hxm (k3 x x1))
    unfold stepA at e4
    split at e4
    · rename_i args ts el' n' sz' cc hgd hop
      split at e4
      · rename_i x y tt tt' hargs hts
        have hargs' : args = #[x, y] := by apply Array.toList_inj.1; simpa using hargs
        have hts' : ts = #[tt, tt'] := by apply Array.toList_inj.1; simpa using hts
        subst hargs' hts'
        split at e4
        · rename_i el _ _ _ i n acc1 htt h1 h2
          cases Nat.eq_of_beq_eq_true htt
          split at e4
          · rename_i ti j m acc2 h3 h4
            split at e4
            · rename_i t2 m' sz d hb hj
              split at e4
              · rename_i acc3 nx' hs hone hnx
                simp only [Bool.and_eq_true] at hb
                obtain ⟨⟨⟨⟨⟨hb1, hb2⟩, hb3⟩, hb4⟩, hb5⟩, hb6⟩ := hb
                have hb4 := Nat.eq_of_beq_eq_true hb4
                subst hb4
                have hb5 := Nat.eq_of_beq_eq_true hb5
                subst hb5
                have hb6 := Nat.eq_of_beq_eq_true hb6
                subst hb6
                have hs := Nat.eq_of_beq_eq_true hs
                subst hs
                have hrr := nxt_eq hnx
                simp only [Option.some.injEq, Prod.mk.injEq] at e4
                obtain ⟨f1, f2, f3, f4⟩ := e4
                rw [← f4] at e5
                obtain ⟨⟨hm1, hn1, hm2⟩, hc3⟩ := e5
                have hc2 := oneC_acc hone hc3
                obtain ⟨hc1, uy, hy1, hy2⟩ := ev_sound hk h4 hc2
                obtain ⟨_, ux, hx1, hx2⟩ := ev_sound hk h2 hc1
                have hne : j ≠ i := fun e => by subst e; exact hnot hj
                obtain ⟨A, cap, news, rfl, hd, hl, hnews⟩ := src_sound (hp.heap.holds j _ (hsubH hj)) (.inr ⟨_, rfl⟩) hy1 hm1
                simp only [AV.den, Option.map_eq_some_iff] at hx1
                obtain ⟨L, q1, rfl⟩ := hx1
                obtain ⟨L', vs, q2, q3, q4⟩ := hp.heap.holds i _ hfull
                rw [q1] at q2; cases q2
                subst hn1
                have hnU : ¬ UD nx0 R D r.lo := by
                  rintro (h | ⟨r', h3, h4, h5, h6⟩)
                  · have := (hg.ge.2 r hr).1; omega
                  · exact (hg.uniq r hr r' h3 (fun e => by rw [e, h4] at hD; cases hD)).2 r.lo ⟨Nat.le_refl _, by omega, h5, h6⟩
                obtain ⟨v, w', ρ', g1, g2, g3, g4⟩ := append_ok (H0 := delA i (hE D R ++ (xE Y D X ++ H0))) hp (hC.know hp) (o := o) hop h1 h3 (Nat.eq_of_beq_eq_true hb1) (Nat.le_of_ble_eq_true hb2) (Nat.le_of_ble_eq_true hb3) (fun k c h => (look_del h).2) q4 hx2
                  (fun g hg0 => by
                    have hocc : Chunk.occ ρ i g (.row el n ti.size cc) := by
                      cases hL : L.ad with
                      | none => rw [hL] at hg0; simp [Value.ownBlock] at hg0
                      | some b => rw [hL] at hg0; simp [Value.ownBlock] at hg0; exact ⟨L, b, q1, hL, hg0⟩
                    exact ⟨⟨i, _, hfull, rfl, hocc⟩, fun k c hkc => hp.heap.apart i _ hfull rfl k c (look_del hkc).2 (look_del hkc).1 g hocc⟩)
                  hy2 hl hnews (oneC_sound hone hc3 hd) hm2 (cc := catC cc d) (by rw [catC_cells]; exact denL_append q3 hd) hnU (by have := (hg.ge.2 r hr).1; omega)
                have hw : Region.wanted o (yielded ops a.tmps) = true := by simp [Region.wanted, hgd]
                have fin : Interp F (UD nx0 R D') (updO (fun k => look k (tE D R ++ T0)) o.dst r.av) (fun k => look k ((r.lo, Chunk.row el (n + m) ti.size (catC cc d)) :: delA i (hE D R ++ (xE Y D X ++ H0)))) ρ' (a.put o.dst v) w' := by
                  refine Interp.put (Interp.sub g4 (fun i' L' e' h' => ?_) (fun _ _ h => h) (fun _ _ h => h)) o.dst (fun k e => by rw [← hC.nt]; exact (k1 k (by rw [e2]; exact e)).1) (by rw [← f1]; exact g2)
                  rcases h' with h' | h'
                  · rcases h' with h' | ⟨r', h3, h4, h5⟩
                    · exact .inl h'
                    · exact .inr ⟨r', h3, (hD' _).2 (.inl h4), h5⟩
                  · exact .inr ⟨r, hr, (hD' _).2 (.inr rfl), by omega, by omega⟩
                have goal : Part F Y X T0 H0 nx0 R D' ρ' (a.put o.dst v) w' := by
                  refine Interp.sub fin (fun _ _ _ h => h) (fun k u h => temps h) (fun k ch h => ?_)
                  rw [look_cons]
                  rcases chunks h with ⟨a1, a2, a3⟩ | ⟨a1, a2, a3, a4⟩
                  · rw [← f2, look_cons] at a1
                    split at a1
                    · rename_i e; rw [if_pos e]; exact a1
                    · cases a1
                  · rw [if_neg (by omega), look_delA, if_neg (fun e => a4 _ hxm rfl e.symm)]
                    exact a2
                rcases g1 with g1 | ⟨g1, rfl⟩
                · exact wpOpIn_on e1 hw (wpIn_ok (fun c e => by rw [hop] at e; cases e) g1 (.inl rfl) (hK _ _ _ goal))
                · exact wpOpIn_on e1 hw (wpIn_ok (fun c e => by rw [hop] at e; cases e) g1 (.inr ⟨rfl, rfl⟩) (hK _ _ _ goal))
              · cases e4
            · cases e4
          · cases e4
        · cases e4
      · cases e4
    · rename_i t' x hi' el' n' sz' cc hgd hop
      split at e4
      · rename_i el _ _ _ i n acc1 h1 h2
        split at e4
        · rename_i kq q acc2 ti h3 h4
          split at e4
          · rename_i c' nx' hb hsl hnx
            have hb4 := Nat.eq_of_beq_eq_true hb
            subst hb4
            have hrr := nxt_eq hnx
            simp only [Option.some.injEq, Prod.mk.injEq] at e4
            obtain ⟨f1, f2, f3, f4⟩ := e4
            rw [← f4] at e5
            obtain ⟨⟨hq0, hqm⟩, hc2⟩ := e5
            obtain ⟨hc1, u2, hy1, hy2⟩ := ev_sound hk h3 hc2
            obtain ⟨_, ux, hx1, hx2⟩ := ev_sound hk h2 hc1
            simp only [AV.den, Option.some.injEq] at hy1
            subst hy1
            simp only [AV.den, Option.map_eq_some_iff] at hx1
            obtain ⟨L, q1, rfl⟩ := hx1
            obtain ⟨L', vs, q2, q3, q4⟩ := hp.heap.holds i _ hfull
            rw [q1] at q2; cases q2
            have hu := (hk.tv t' _ (look_mem h1)).1
            have hs := tv_size (w := w) hk.tv h4
            have hqn : q.toNat ≤ n' := by omega
            have hden := sliceC_den hsl q3 q4.1 (Nat.zero_le _) hqn
            simp only [Nat.zero_mul, List.drop_zero, Nat.sub_zero] at hden
            have hcapm : n' ≤ L.cap := by
              rcases q4.2 with ⟨g1, g2⟩ | ⟨g, cap, cur, g1, g2, g3, g4, _⟩
              · injection g1 with g1 g8 g9; omega
              · injection g1 with g1 g8 g9; rw [g9]; exact g4
            have hrun : (execOp a.eval o).run F.P w = .ok (.value (.slice L.ad q.toNat L.cap)) w := by
              simp only [execOp, hop, hx2, hy2, Option.map_none, Option.map_some, Instr.sliceAt, Instr.slice, Sem.run_bind, run_underlying hu, Result.andThen_ok, hs, Sem.run_pure]
              have hq : (0 : Int) ≤ q ∧ q ≤ (L.cap : Int) := by omega
              simp [Instr.sliceBounds, Instr.sliceBound, asIntOf, hq, hs]
              intro hne
              cases L.ad <;> simp [Addr.add]
            have hnU : ¬ UD nx0 R D r.lo := by
              rintro (h | ⟨r', h3, h4, h5, h6⟩)
              · have := (hg.ge.2 r hr).1; omega
              · exact (hg.uniq r hr r' h3 (fun e => by rw [e, h4] at hD; cases hD)).2 r.lo ⟨Nat.le_refl _, by omega, h5, h6⟩
            obtain ⟨v, w', ρ', g1, g2, g3, g4⟩ := shrink_ok (P := F.P) (H0 := delA i (hE D R ++ (xE Y D X ++ H0))) hp (o := o) (el := el') (fun k c h => (look_del h).2) q4 hqn rfl
              (fun g hg0 => by
                have hocc : Chunk.occ ρ i g (.row el' n' sz' cc) := by
                  cases hL : L.ad with
                  | none => rw [hL] at hg0; simp [Value.ownBlock] at hg0
                  | some b => rw [hL] at hg0; simp [Value.ownBlock] at hg0; exact ⟨L, b, q1, hL, hg0⟩
                exact ⟨⟨i, _, hfull, rfl, hocc⟩, fun k c hkc => hp.heap.apart i _ hfull rfl k c (look_del hkc).2 (look_del hkc).1 g hocc⟩)
              hrun (cc := c') hden hnU (by have := (hg.ge.2 r hr).1; omega)
            have hw : Region.wanted o (yielded ops a.tmps) = true := by simp [Region.wanted, hgd]
            have fin : Interp F (UD nx0 R D') (updO (fun k => look k (tE D R ++ T0)) o.dst r.av) (fun k => look k ((r.lo, Chunk.row el' q.toNat sz' c') :: delA i (hE D R ++ (xE Y D X ++ H0)))) ρ' (a.put o.dst v) w' := by
              refine Interp.put (Interp.sub g4 (fun i' L' e' h' => ?_) (fun _ _ h => h) (fun _ _ h => h)) o.dst (fun k e => by rw [← hC.nt]; exact (k1 k (by rw [e2]; exact e)).1) (by rw [← f1]; exact g2)
              rcases h' with h' | h'
              · rcases h' with h' | ⟨r', h3, h4, h5⟩
                · exact .inl h'
                · exact .inr ⟨r', h3, (hD' _).2 (.inl h4), h5⟩
              · exact .inr ⟨r, hr, (hD' _).2 (.inr rfl), by omega, by omega⟩
            have goal : Part F Y X T0 H0 nx0 R D' ρ' (a.put o.dst v) w' := by
              refine Interp.sub fin (fun _ _ _ h => h) (fun k u h => temps h) (fun k ch h => ?_)
              rw [look_cons]
              rcases chunks h with ⟨a1, a2, a3⟩ | ⟨a1, a2, a3, a4⟩
              · rw [← f2, look_cons] at a1
                split at a1
                · rename_i e; rw [if_pos e]; exact a1
                · cases a1
              · rw [if_neg (by omega), look_delA, if_neg (fun e => a4 _ hxm rfl e.symm)]
                exact a2
            rcases g1 with g1 | ⟨g1, rfl⟩
            · exact wpOpIn_on e1 hw (wpIn_ok (fun c e => by rw [hop] at e; cases e) g1 (.inl rfl) (hK _ _ _ goal))
            · exact wpOpIn_on e1 hw (wpIn_ok (fun c e => by rw [hop] at e; cases e) g1 (.inr ⟨rfl, rfl⟩) (hK _ _ _ goal))
          · cases e4
        · cases e4
      · cases e4
    · cases e4
  · refine stepE_sound hk ht e1 e4 e5 hfree k2 fun v w' ρ' hN hv => hK ρ' _ _ ?_
    have hN' := hN.more (H' := fun k => look k (hE D R ++ (xE Y D X ++ H0))) fun i c e => hsubH e
    have hheap := hp.heap.add hN'
    have hstep : Interp F (UD nx0 R D') (fun k => look k (tE D R ++ T0)) (orMap (fun k => look k N) fun k => look k (hE D R ++ (xE Y D X ++ H0))) ρ' a w' := by
      refine Interp.step hp hN'.le (fun i hi => hN'.only i (by have := (hg.ge.2 r hr).1; omega)) (domU fun i hi => hN'.only i hi) hheap (fun g hgg => ?_) (hp.touch.trans (Touch.of_below (s := fun _ => False) hN'.below) (fun _ h => h.elim)) (KeepM.below hN'.below)
      rcases owned_add hp.heap hN' hgg with h6 | h6
      · left; have := hp.touch.size; omega
      · exact hp.fresh g h6
    have hput := hstep.put o.dst (av := r.av) (fun k e => by rw [← hC.nt]; exact (k1 k (by rw [e2]; exact e)).1) hv
    refine hput.sub (fun _ _ _ h => h) (fun k u h => temps h) (fun k ch h => ?_)
    show (look k N).or (look k (hE D R ++ (xE Y D X ++ H0))) = some ch
    rcases chunks h with ⟨a1, _⟩ | ⟨a1, a2, _⟩
    · rw [a1]; rfl
    · rw [a1]; exact a2

end

/-- The row that is held back is what the operation makes there. -/
def madeC (Y : Option (Nat × Nat)) (X : List (Nat × (Nat × Chunk))) (j : Nat) (N : List (Nat × Chunk)) (cs : List Cd) : List Cd := match Y with
  | some (k, j0) => match Nat.beq j0 j with
    | true => cp (∀ i c, (i, (k, c)) ∈ X → look k N = some c) :: cs
    | false => cs
  | none => cs
theorem madeC_all {Y : Option (Nat × Nat)} {X : List (Nat × (Nat × Chunk))} {j : Nat} {N : List (Nat × Chunk)} {cs : List Cd} (h : All (madeC Y X j N cs)) : All cs ∧ ∀ k i c, (i, (k, c)) ∈ X → Y = some (k, j) → look k N = some c := by
  unfold madeC at h
  split at h
  · rename_i k j0
    split at h
    · refine ⟨h.2, fun k' i c hx e => ?_⟩
      cases e
      exact h.1 i c hx
    · rename_i hb
      refine ⟨h, fun k' i c hx e => ?_⟩
      cases e
      simp at hb
  · exact ⟨h, fun k' i c hx e => by cases e⟩
theorem made_one {k i : Nat} {ch : Chunk} {N : List (Nat × Chunk)} (h : look k N = some ch) : ∀ (i' : Nat) (c : Chunk), (i', (k, c)) ∈ [(i, (k, ch))] → look k N = some c := fun i' c hm => by
  rcases List.mem_cons.1 hm with e | e
  · cases e; exact h
  · cases e
def stab (cfg : Cfg) (t : Told) (Y : Option (Nat × Nat)) (X : List (Nat × (Nat × Chunk))) (ops : List Oper) (cl : List Nat) (T0 : List (Nat × AV)) (H0 : List (Nat × Chunk)) : Nat → Nat → List Oper → Nat → List Res → List (List Cd) → Option (List Res × Nat × List (List Cd))
  | 0, _, _, nx, R, css => some (R, nx, css)
  | _ + 1, _, [], _, _, _ => none
  | m + 1, j, o :: rest, nx, R, css => match nth cl j, o.dst with
    | some c, dst => forceK (tE (bitAt c) R ++ T0) [] fun T => forceK (hE (bitAt c) R ++ H0) [] fun H => match stepX cfg t X ops j o T H nx [] with
      | some (r, N, nx', cs) => match okE cfg.nt T0 R dst N nx nx', nxt j with
        | true, some j' => match madeC Y X j N cs with
          | [] => stab cfg t Y X ops cl T0 H0 m j' rest nx' (⟨j, dst, r, cutN Y j N, nx, nx'⟩ :: R) css
          | c :: cs' => stab cfg t Y X ops cl T0 H0 m j' rest nx' (⟨j, dst, r, cutN Y j N, nx, nx'⟩ :: R) ((c :: cs') :: css)
        | _, _ => none
      | none => none
    | none, _ => none

theorem stab_good {cfg : Cfg} {t : Told} {Y : Option (Nat × Nat)} {X : List (Nat × (Nat × Chunk))} {ops : Array Oper} {cl : List Nat} {T0 : List (Nat × AV)} {H0 : List (Nat × Chunk)} {nx0 : Nat} : ∀ {m j : Nat} {rest : List Oper} {nx nx' : Nat} {R R' : List Res} {css css' : List (List Cd)},
    stab cfg t Y X ops.toList cl T0 H0 m j rest nx R css = some (R', nx', css') → (∀ k, rest[k]? = ops[j + k]?) → Good cfg t Y X ops cl T0 H0 nx0 R → R.length = j → nx = nxOf nx0 R → AllL css' →
    AllL css ∧ Good cfg t Y X ops cl T0 H0 nx0 R' ∧ R'.length = j + m ∧ nx' = nxOf nx0 R'
  | 0, j, rest, nx, nx', R, R', css, css', h, hr, hg, hl, hn, hc => by cases h; exact ⟨hc, hg, hl, hn⟩
  | m + 1, j, [], nx, nx', R, R', css, css', h, hr, hg, hl, hn, hc => by simp [stab] at h
  | m + 1, j, o :: rest, nx, nx', R, R', css, css', h, hr, hg, hl, hn, hc => by
    simp only [stab] at h
    split at h
    · rename_i c hcl
      rw [force_eq, force_eq] at h
      split at h
      · rename_i r N nx1 cs h1
        split at h
        · rename_i j' hok hj
          cases nxt_eq hj
          have hr' : ∀ k, rest[k]? = ops[j + 1 + k]? := fun k => by have := hr (k + 1); simpa [Nat.add_assoc, Nat.add_comm 1 k] using this
          have ho : ops[j]? = some o := by have := hr 0; simpa using this.symm
          have hgood : All (madeC Y X j N cs) → Good cfg t Y X ops cl T0 H0 nx0 (⟨j, o.dst, r, cutN Y j N, nx, nx1⟩ :: R) := by
            intro hcs0
            obtain ⟨hcs, hmade⟩ := madeC_all hcs0
            unfold okE at hok
            split at hok
            · rename_i hb
              simp only [Bool.and_eq_true] at hb
              refine ⟨hg, hl.symm, hn, Nat.le_of_ble_eq_true hb.1, fun k c h => idsIn_mem hb.2 k c (cutN_look h).1, fun d hd => ?_, o, c, cs, N, ho, rfl, hcl, h1, hcs, rfl, idsIn_mem hb.2, hmade⟩
              dsimp only at hd
              rw [hd] at hok
              simp only at hok
              split at hok
              · rename_i hb1 hb2
                exact ⟨Nat.le_of_ble_eq_true hb1, hb2, dstFree_mem hok⟩
              · cases hok
            · cases hok
          split at h
          · rename_i he
            obtain ⟨a1, a2, a3, a4⟩ := stab_good h hr' (hgood (by rw [he]; trivial)) (by simp [hl]) rfl hc
            exact ⟨a1, a2, by omega, a4⟩
          · rename_i he
            have hcc := stab_acc h hc
            obtain ⟨a1, a2, a3, a4⟩ := stab_good h hr' (hgood (by rw [he]; exact hcc.1)) (by simp [hl]) rfl hc
            exact ⟨a1.2, a2, by omega, a4⟩
        · cases h
      · cases h
    · cases h
where stab_acc {cfg : Cfg} {t : Told} {Y : Option (Nat × Nat)} {X : List (Nat × (Nat × Chunk))} {ops : List Oper} {cl : List Nat} {T0 : List (Nat × AV)} {H0 : List (Nat × Chunk)} : ∀ {m j : Nat} {rest : List Oper} {nx nx' : Nat} {R R' : List Res} {css css' : List (List Cd)},
    stab cfg t Y X ops cl T0 H0 m j rest nx R css = some (R', nx', css') → AllL css' → AllL css
  | 0, j, rest, nx, nx', R, R', css, css', h, hc => by cases h; exact hc
  | m + 1, j, [], nx, nx', R, R', css, css', h, hc => by simp [stab] at h
  | m + 1, j, o :: rest, nx, nx', R, R', css, css', h, hc => by
    simp only [stab] at h
    split at h
    · rw [force_eq, force_eq] at h
      split at h
      · split at h
        · split at h
          · exact stab_acc h hc
          · exact (stab_acc h hc).2
        · cases h
      · cases h
    · cases h


section
variable {cfg : Cfg} {F : Frm} {t : Told} {Y : Option (Nat × Nat)} {X : List (Nat × (Nat × Chunk))} {ops : Array Oper} {cl : List Nat} {T0 : List (Nat × AV)} {H0 : List (Nat × Chunk)} {nx0 m : Nat} {R : List Res} {s' : St} {css' : List (List Cd)} {Q : Exit → St → Prop}
/-- Where a run in some order may stand. -/
def Stand (cfg : Cfg) (F : Frm) (t : Told) (Y : Option (Nat × Nat)) (X : List (Nat × (Nat × Chunk))) (ops : Array Oper) (T0 : List (Nat × AV)) (H0 : List (Nat × Chunk)) (nx0 m : Nat) (R : List Res) (s' : St) (css' : List (List Cd)) (listed : Array Bool) (a : Act) (w : World) : Prop :=
  ((∃ i, i < m ∧ got listed i = false) ∧ (∀ i, got listed i = true → i < m) ∧ ∃ ρ, Part F Y X T0 H0 nx0 R (got listed) ρ a w) ∨
  (∃ j T H nx css ρ, m ≤ j ∧ j ≤ ops.size ∧ (∀ i, got listed i = true ↔ i < j) ∧ runOps cfg t ops.toList j (ops.toList.drop j) T H nx css = some (s', css') ∧ Holds F T H nx ρ a w)

theorem drawn_sound (hC : CfgOk F cfg) (ht : t.ok F.P) (hcl : clOk cl m ops.toList 0 = true) (hg : Good cfg t Y X ops cl T0 H0 nx0 R) (hRl : R.length = m) (hmn : m ≤ ops.size) (hX : XOk Y X cl m H0 nx0) (hm : F.m ≤ nx0)
    {css1 : List (List Cd)} (hrun : runOps cfg t ops.toList m (ops.toList.drop m) (tE (fun _ => true) R ++ T0) (hE (fun _ => true) R ++ H0) (nxOf nx0 R) css1 = some (s', css')) (hc : AllL css') (hq : Q .normal s') :
    ∀ (fuel : Nat) (listed : Array Bool) (a : Act) (w : World), listed.size = ops.size → Closed cl listed → (List.range ops.size).countP (fun i => !got listed i) ≤ fuel → Stand cfg F t Y X ops T0 H0 nx0 m R s' css' listed a w →
      wpAnyIn (fen F.rd) 2 F.P .any ops (Post F Q) fuel listed a w := by
  have hcm : ∀ i o, ops[i]? = some o → ∃ c, nth cl i = some c ∧ (∀ e ∈ o.after, Region.binds .any e = true → e.on < i) ∧
      (∀ k, c.testBit k = true → ∃ e ∈ o.after, Region.binds .any e = true ∧ (k = e.on ∨ ∃ c', nth cl e.on = some c' ∧ c'.testBit k = true)) ∧ (m ≤ i → ∀ k, k < i → c.testBit k = true) := by
    intro i o h
    have := clOk_mem hcl i o (by rw [Array.getElem?_toList]; exact h)
    simpa using this
  -- what a ready operation waits for is listed
  have waits : ∀ {listed : Array Bool} {i : Nat} {o : Oper}, Closed cl listed → ops[i]? = some o → (∀ e ∈ o.after, Region.binds .any e = true → got listed e.on = true) → ∀ c k, nth cl i = some c → c.testBit k = true → got listed k = true := by
    intro listed i o hcd ho hdep c k h1 h2
    obtain ⟨c', a1, _, a3, _⟩ := hcm i o ho
    rw [h1] at a1; cases a1
    obtain ⟨e, b1, b2, b3⟩ := a3 k h2
    have := hdep e b1 b2
    rcases b3 with rfl | ⟨c', b4, b5⟩
    · exact this
    · exact hcd e.on c' k this b4 b5
  -- if something is not listed, something is ready
  have some_ready : ∀ {listed : Array Bool}, listed.size = ops.size → ∀ i, i < ops.size → got listed i = false → ∃ j, j ∈ Region.ready .any ops listed := by
    intro listed hs i
    induction i using Nat.strongRecOn with
    | _ i ih =>
      intro hi hn
      by_cases hall : ∀ e ∈ (ops[i]).after, Region.binds .any e = true → got listed e.on = true
      · exact ⟨i, (ready_iff hs).2 ⟨ops[i], by simp [hi], hn, hall⟩⟩
      · have : ∃ e ∈ (ops[i]).after, Region.binds .any e = true ∧ got listed e.on = false := by
          refine Classical.byContradiction fun hcon => ?_
          refine hall fun e he hb => ?_
          by_cases hge : got listed e.on = true
          · exact hge
          · exact absurd ⟨e, he, hb, by simpa using hge⟩ hcon
        obtain ⟨e, he, hb, hge⟩ := this
        obtain ⟨_, _, h2, _⟩ := hcm i ops[i] (by simp [hi])
        have hlt := h2 e he hb
        exact ih e.on hlt (by omega) hge
  have toB : ∀ {listed : Array Bool} {ρ : Env} {a : Act} {w : World}, (∀ i, i < m → got listed i = true) → Part F Y X T0 H0 nx0 R (got listed) ρ a w → Holds F (tE (fun _ => true) R ++ T0) (hE (fun _ => true) R ++ H0) (nxOf nx0 R) ρ a w := by
    intro listed ρ a w hl hp
    have hge := hg.ge
    have hid : ∀ x ∈ R, x ∈ R := fun _ h => h
    have hall : ∀ x ∈ R, (fun _ : Nat => true) x.i = true → got listed x.i = true ∧ x ∈ R := fun x hx _ => ⟨hl x.i (by rw [← hRl]; exact (hge.2 x hx).2.2), hx⟩
    refine ⟨by omega, Interp.sub hp (fun i L _ h => ?_) (fun k v h => hg.tSub hid hid hall h) (fun k v h => hX.lift hg (hg.hSub hX.h0 hid hid hall h))⟩
    rcases h with h | ⟨r, h1, _, h2, h3⟩
    · show i < _; omega
    · have := (hge.2 r h1).2.1; show i < _; omega
  have all_listed_ready : ∀ {listed : Array Bool} {j : Nat}, listed.size = ops.size → Closed cl listed → m ≤ j → (∀ i, got listed i = true ↔ i < j) → ∀ i ∈ Region.ready .any ops listed, i = j := by
    intro listed j hs hcd hmj hl i hi
    obtain ⟨o, h1, h2, h3⟩ := (ready_iff hs).1 hi
    have hji : ¬ i < j := fun h => by rw [(hl i).2 h] at h2; cases h2
    by_cases hij : i = j
    · exact hij
    · obtain ⟨c, a1, _, _, a4⟩ := hcm i o h1
      have := waits hcd h1 h3 c j a1 (a4 (by omega) j (by omega))
      have := (hl j).1 this
      omega
  intro fuel
  induction fuel with
  | zero =>
    intro listed a w hs hcd hcount hst
    have hall : ∀ i, i < ops.size → got listed i = true := by
      intro i hi
      have h0 : (List.range ops.size).countP (fun i => !got listed i) = 0 := by omega
      rw [List.countP_eq_zero] at h0
      have := h0 i (List.mem_range.2 hi)
      simpa using this
    have hempty : Region.ready .any ops listed = [] := by
      rw [List.eq_nil_iff_forall_not_mem]
      intro i hi
      obtain ⟨o, h1, h2, _⟩ := (ready_iff hs).1 hi
      rw [hall i (Array.getElem?_eq_some_iff.1 h1).1] at h2; cases h2
    refine ⟨hempty, ?_⟩
    rcases hst with ⟨⟨i, h1, h2⟩, _⟩ | ⟨j, T, H, nx, css, ρ, h1, h2, h3, h4, h5⟩
    · rw [hall i (by omega)] at h2; cases h2
    · have hj : j = ops.size := by
        rcases Nat.lt_or_ge j ops.size with h | h
        · exact absurd ((h3 j).1 (hall j h)) (by omega)
        · omega
      rw [hj, List.drop_of_length_le (by simp)] at h4
      cases h4
      exact ⟨_, ρ, hq, h5⟩
  | succ fuel ih =>
    intro listed a w hs hcd hcount hst
    have next : ∀ {i : Nat} {o : Oper}, ops[i]? = some o → got listed i = false → (∀ e ∈ o.after, Region.binds .any e = true → got listed e.on = true) → (listed.setIfInBounds i true).size = ops.size ∧ Closed cl (listed.setIfInBounds i true) ∧
        (List.range ops.size).countP (fun k => !got (listed.setIfInBounds i true) k) ≤ fuel := by
      intro i o ho hn hdep
      have hi : i < listed.size := by rw [hs]; exact (Array.getElem?_eq_some_iff.1 ho).1
      refine ⟨by simp [hs], fun x c k h1 h2 h3 => ?_, ?_⟩
      · rw [got_set hi] at h1 ⊢
        rcases h1 with h1 | rfl
        · exact .inl (hcd x c k h1 h2 h3)
        · exact .inl (waits hcd ho hdep c k h2 h3)
      · have := countP_lt (p := fun k => !got listed k) (q := fun k => !got (listed.setIfInBounds i true) k) (l := List.range ops.size) (x := i) (List.mem_range.2 (by omega)) (fun y hy => ?_) (by simp [hn]) (by
          have := (got_set hi i).2 (.inr rfl); simp [this])
        · omega
        · simp only [Bool.not_eq_true', Bool.not_eq_true] at hy ⊢
          cases h : got listed y with
          | false => rfl
          | true => rw [(got_set hi y).2 (.inl h)] at hy; cases hy
    have seqStep : ∀ {j : Nat} {T : List (Nat × AV)} {H : List (Nat × Chunk)} {nx : Nat} {css : List (List Cd)} {ρ : Env}, m ≤ j → (∀ i, got listed i = true ↔ i < j) → runOps cfg t ops.toList j (ops.toList.drop j) T H nx css = some (s', css') → Holds F T H nx ρ a w →
        ∀ {o : Oper}, ops[j]? = some o → (∀ e ∈ o.after, Region.binds .any e = true → got listed e.on = true) → wpOpIn (fen F.rd) 2 F.P ops (Post F Q) j (wpAnyIn (fen F.rd) 2 F.P .any ops (Post F Q) fuel (listed.setIfInBounds j true)) a w := by
      intro j T H nx css ρ hmj hl hrun' hH o ho hdep
      have hj : j < ops.size := (Array.getElem?_eq_some_iff.1 ho).1
      have hdrop : ops.toList.drop j = o :: ops.toList.drop (j + 1) := by
        rw [List.drop_eq_getElem_cons (by simpa using hj)]
        congr 1
        have := (Array.getElem?_eq_some_iff.1 ho).2
        simpa using this
      rw [hdrop] at hrun'
      simp only [runOps] at hrun'
      split at hrun'
      · rename_i T' H' nx' cs hst'
        have fin : ∀ {css2 : List (List Cd)}, runOps cfg t ops.toList (j + 1) (ops.toList.drop (j + 1)) T' H' nx' css2 = some (s', css') → All cs → wpOpIn (fen F.rd) 2 F.P ops (Post F Q) j (wpAnyIn (fen F.rd) 2 F.P .any ops (Post F Q) fuel (listed.setIfInBounds j true)) a w := by
          intro css2 hr hcs
          have hn : got listed j = false := by
            cases h : got listed j with
            | false => rfl
            | true => have := (hl j).1 h; omega
          obtain ⟨b1, b2, b3⟩ := next ho hn hdep
          refine (stepOp_sound (Q := Post F Q) hC ht hH ho hst' hcs fun ρ' a' w' _ hH' => ih _ a' w' b1 b2 b3 (.inr ⟨j + 1, T', H', nx', css2, ρ', by omega, by omega, fun i => ?_, hr, hH'⟩)).2
          rw [got_set (by omega), hl]
          omega
        split at hrun'
        · exact fin hrun' trivial
        · exact fin hrun' (runOps_acc hrun' hc).1
      · cases hrun'
    refine ⟨fun hempty => ?_, fun i hi => ?_⟩
    · rcases hst with ⟨⟨i, h1, h2⟩, _⟩ | ⟨j, T, H, nx, css, ρ, h1, h2, h3, h4, h5⟩
      · obtain ⟨k, hk⟩ := some_ready hs i (by omega) h2
        rw [hempty] at hk; cases hk
      · have hj : j = ops.size := by
          rcases Nat.lt_or_ge j ops.size with h | h
          · have hnj : got listed j = false := by
              cases hx : got listed j with
              | false => rfl
              | true => have := (h3 j).1 hx; omega
            obtain ⟨k, hk⟩ := some_ready hs j h hnj
            rw [hempty] at hk; cases hk
          · omega
        rw [hj, List.drop_of_length_le (by simp)] at h4
        cases h4
        exact ⟨_, ρ, hq, h5⟩
    · obtain ⟨o, h1, h2, h3⟩ := (ready_iff hs).1 hi
      rcases hst with ⟨⟨u, hu1, hu2⟩, hst1, ρ, hp⟩ | ⟨j, T, H, nx, css, ρ, hmj, hjn, hl, hr, hH⟩
      · have him : i < m := by
          rcases Nat.lt_or_ge i m with h | h
          · exact h
          · obtain ⟨c, a1, _, _, a4⟩ := hcm i o h1
            have := waits hcd h1 h3 c u a1 (a4 h u (by omega))
            rw [this] at hu2; cases hu2
        obtain ⟨r, hr, hri⟩ := hg.get i (by omega)
        obtain ⟨b1, b2, b3⟩ := next h1 h2 h3
        have hil : i < listed.size := by rw [hs]; exact (Array.getElem?_eq_some_iff.1 h1).1
        subst hri
        refine part_step (Q := Post F Q) hC ht hg hX hRl hm hp hr h2 (fun c k hcc hb => ?_) (D' := got (listed.setIfInBounds r.i true)) (fun k => got_set hil k) fun ρ' a' w' hp' => ih _ a' w' b1 b2 b3 ?_
        · rw [bitAt_eq] at hb
          exact waits hcd h1 h3 c k hcc hb
        · have hl' : ∀ k, got (listed.setIfInBounds r.i true) k = true → k < m := fun k hk => by
            rcases (got_set hil k).1 hk with h | rfl
            · exact hst1 k h
            · exact him
          by_cases hall : ∃ k, k < m ∧ got (listed.setIfInBounds r.i true) k = false
          · exact .inl ⟨hall, hl', ρ', hp'⟩
          · have hall' : ∀ k, k < m → got (listed.setIfInBounds r.i true) k = true := fun k hk => by
              cases hx : got (listed.setIfInBounds r.i true) k with
              | true => rfl
              | false => exact absurd ⟨k, hk, hx⟩ hall
            exact .inr ⟨m, _, _, _, css1, ρ', Nat.le_refl _, hmn, fun k => ⟨hl' k, hall' k⟩, hrun, toB hall' hp'⟩
      · have := all_listed_ready hs hcd hmj hl i hi
        subst this
        exact seqStep hmj hl hr hH h1 h3


/-- The rows are taken out of what is shared. -/
def takeX : List (Nat × Nat) → List (Nat × Chunk) → Option (List (Nat × (Nat × Chunk)) × List (Nat × Chunk))
  | [], H => some ([], H)
  | (i, k) :: l, H => match look k H with
    | some c => forceK (delA k H) [] fun H' => match takeX l H' with
      | some (X, H0) => some ((i, (k, c)) :: X, H0)
      | none => none
    | none => none
theorem takeX_is : ∀ {l : List (Nat × Nat)} {H : List (Nat × Chunk)} {X : List (Nat × (Nat × Chunk))} {H0 : List (Nat × Chunk)}, takeX l H = some (X, H0) →
    (∀ k c, look k H0 = some c → look k H = some c) ∧ (∀ x ∈ X, look x.2.1 H = some x.2.2 ∧ look x.2.1 H0 = none) ∧ ∀ x ∈ X, ∀ y ∈ X, x.2.1 = y.2.1 → x = y
  | [], H, X, H0, h => by cases h; exact ⟨fun _ _ h => h, fun x hx => (by cases hx), fun x hx => (by cases hx)⟩
  | (i, k) :: l, H, X, H0, h => by
    simp only [takeX] at h
    split at h
    · rename_i c hk
      rw [force_eq] at h
      split at h
      · rename_i X1 H1 h1
        cases h
        obtain ⟨a1, a2, a3⟩ := takeX_is h1
        have b0 : look k H0 = none := by
          cases e : look k H0 with
          | none => rfl
          | some d =>
            have := a1 k d e
            rw [look_delA, if_pos rfl] at this; cases this
        have bk : ∀ x ∈ X1, x.2.1 ≠ k := fun x hx e => by
          have := (a2 x hx).1
          rw [e, look_delA, if_pos rfl] at this; cases this
        refine ⟨fun k' c' h' => (look_del (a1 k' c' h')).2, fun x hx => ?_, fun x hx y hy e => ?_⟩
        · rcases List.mem_cons.1 hx with rfl | hx
          · exact ⟨hk, b0⟩
          · exact ⟨(look_del (a2 x hx).1).2, (a2 x hx).2⟩
        · rcases List.mem_cons.1 hx with rfl | hx <;> rcases List.mem_cons.1 hy with rfl | hy
          · rfl
          · exact absurd e.symm (bk y hy)
          · exact absurd e (bk x hx)
          · exact a3 x hx y hy e
      · cases h
    · cases h
/-- A row that an operation of the region makes, for one append or slice: sr = (the append, the maker, the row's number, the row). -/
def srcX (sr : Option (Nat × Nat × Nat × Chunk)) (cl : List Nat) (m nx : Nat) (X : List (Nat × (Nat × Chunk))) : Option (Option (Nat × Nat) × List (Nat × (Nat × Chunk))) := match sr with
  | none => some (none, X)
  | some (i, j, k, ch) => match nth cl i with
    | some c => match bitAt c j && Nat.blt j m && Nat.ble nx k with
      | true => some (some (k, j), (i, (k, ch)) :: X)
      | false => none
    | none => none
def runDrawnX (cfg : Cfg) (t : Told) (ks : List (Nat × Nat)) (sr : Option (Nat × Nat × Nat × Chunk)) (cl : List Nat) (m : Nat) (ops : List Oper) (T : List (Nat × AV)) (H : List (Nat × Chunk)) (nx : Nat) : Option (St × List (List Cd)) :=
  match clOk cl m ops 0, takeX ks H with
  | true, some (X, H0) => match srcX sr cl m nx X with
    | some (Y, X) => forceK (delKeys ops m T) [] fun T0 => match stab cfg t Y X ops cl T0 H0 m 0 ops nx [] [] with
      | some (R, nx1, css) => forceK (tE (fun _ => true) R ++ T0) [] fun T1 => forceK (hE (fun _ => true) R ++ H0) [] fun H1 => runOps cfg t ops m (ops.drop m) T1 H1 nx1 css
      | none => none
    | none => none
  | _, _ => none
theorem lwp_drawnX (hC : CfgOk F cfg) (hmx : F.P.follows .mixedOrders = true) (t : Told) (ht : t.ok F.P) (ks : List (Nat × Nat)) (sr : Option (Nat × Nat × Nat × Chunk)) (cl : List Nat) (m : Nat) {id : Nat} {ops : Array Oper} {T : List (Nat × AV)} {H : List (Nat × Chunk)} {nx : Nat} {s' : St} {css : List (List Cd)}
    (h : runDrawnX cfg t ks sr cl m ops.toList T H nx = some (s', css)) (hc : AllL css) (hq : Q .normal s') : LWP F (.region id ops true) Q ⟨T, H, nx⟩ := ⟨fun ρ a w hs => by
  unfold runDrawnX at h
  split at h
  case h_2 => cases h
  rename_i X0 H0 hcl htk
  split at h
  case h_2 => cases h
  rename_i Y X hsrc
  rw [force_eq] at h
  split at h
  case h_2 => cases h
  rename_i R nx1 css1 hstab
  rw [force_eq, force_eq] at h
  have hs1 : Holds F T H nx ρ a { w with drawn := w.drawn + 1 } := Holds.drew hs
  obtain ⟨_, hg, hRl, hnx⟩ := stab_good (nx0 := nx) hstab (fun k => by simp) trivial rfl rfl (runOps_acc h hc)
  subst hnx
  have hRl : R.length = m := by omega
  have hmn : m ≤ ops.size := by
    rcases Nat.lt_or_ge ops.size m with hlt | hge
    · have h0 : 0 < R.length := by omega
      obtain ⟨r, hr, hri⟩ := hg.get (m - 1) (by omega)
      obtain ⟨_, _, _, _, o, _, _, _, e, _⟩ := hg.key r hr
      have := (Array.getElem?_eq_some_iff.1 e).1
      omega
    · exact hge
  have hHlt : ∀ i c, look i H = some c → i < nx := by
    intro i c e
    have hh := hs1.I.heap.holds i c e
    have : ∃ L, ρ i = some L := by
      cases c with
      | blk t l => obtain ⟨g, cap, vs, e, _⟩ := hh; exact ⟨_, e⟩
      | rb t l => obtain ⟨g, cap, vs, e, _⟩ := hh; exact ⟨_, e⟩
      | row t n sz c => obtain ⟨L, vs, e, _⟩ := hh; exact ⟨_, e⟩
      | ro n sz c => obtain ⟨L, vs, e, _⟩ := hh; exact ⟨_, e⟩
      | obj k => obtain ⟨b, cap, vs, e, _⟩ := hh; exact ⟨_, e⟩
      | fam => obtain ⟨L, e, _⟩ := hh; exact ⟨_, e⟩
    obtain ⟨L, hL⟩ := this
    exact hs1.I.dom i L hL
  obtain ⟨x1, x2, x3⟩ := takeX_is htk
  have hX0 : ∀ x ∈ X0, x.2.1 < nx := fun x hx => hHlt _ _ (x2 x hx).1
  have hXY : XOk Y X cl m H0 nx ∧ (∀ x ∈ X, x ∈ X0 ∨ ∃ j, Y = some (x.2.1, j)) := by
    unfold srcX at hsrc
    split at hsrc
    · cases hsrc
      exact ⟨⟨fun i c e => hHlt i c (x1 i c e), fun x hx _ => hX0 x hx, fun x hx => (x2 x hx).2, x3, fun x hx j e => by cases e⟩, fun x hx => .inl hx⟩
    · rename_i i j k ch
      split at hsrc
      · rename_i c hcl2
        split at hsrc
        · rename_i hb
          cases hsrc
          simp only [Bool.and_eq_true] at hb
          obtain ⟨⟨hb1, hb2⟩, hb3⟩ := hb
          have hb2 : j < m := Nat.le_of_ble_eq_true hb2
          have hb3 : nx ≤ k := Nat.le_of_ble_eq_true hb3
          refine ⟨⟨fun i c e => hHlt i c (x1 i c e), fun x hx hno => ?_, fun x hx => ?_, fun x hx y hy e => ?_, fun x hx j' e => ?_⟩, fun x hx => ?_⟩
          · rcases List.mem_cons.1 hx with rfl | hx
            · exact absurd rfl (hno j)
            · exact hX0 x hx
          · rcases List.mem_cons.1 hx with rfl | hx
            · cases e : look k H0 with
              | none => rfl
              | some d => have := hHlt k d (x1 k d e); omega
            · exact (x2 x hx).2
          · rcases List.mem_cons.1 hx with rfl | hx <;> rcases List.mem_cons.1 hy with rfl | hy
            · rfl
            · have := hX0 y hy
              have e : k = y.2.1 := e
              omega
            · have := hX0 x hx
              have e : x.2.1 = k := e
              omega
            · exact x3 x hx y hy e
          · rcases List.mem_cons.1 hx with rfl | hx
            · cases e
              refine ⟨hb2, fun c' hc' => ?_⟩
              rw [show nth cl i = some c from hcl2] at hc'
              cases hc'
              exact hb1
            · have := hX0 x hx
              injection e with e
              have : k = x.2.1 := congrArg Prod.fst e
              omega
          · rcases List.mem_cons.1 hx with rfl | hx
            · exact .inr ⟨j, rfl⟩
            · exact .inl hx
        · cases hsrc
      · cases hsrc
  obtain ⟨hX, hXin⟩ := hXY
  refine wpIn_region_any hmx ?_
  have hgot0 : ∀ k, got (Array.replicate ops.size false) k = false := by
    intro k; unfold got; rw [Array.getD_eq_getD_getElem?, Array.getElem?_replicate]; split <;> rfl
  have hT0 : Interp F (fun i => i < nx) (fun k => look k (delKeys ops.toList m T)) (fun k => look k H) ρ a { w with drawn := w.drawn + 1 } := hs1.I.sub (fun _ _ _ h => h) (fun k v h => delKeys_look h) (fun _ _ h => h)
  refine drawn_sound hC ht hcl hg hRl hmn hX hs1.m h hc hq ops.size _ a _ (by simp) (fun i c k hi => (by rw [hgot0] at hi; cases hi)) (by have := List.countP_le_length (p := fun i => !got (Array.replicate ops.size false) i) (l := List.range ops.size); simpa using this) ?_
  have emptyT : ∀ {R : List Res} {D : Nat → Bool}, (∀ k, D k = false) → tE D R = [] ∧ hE D R = [] := by
    intro R D hD
    induction R with
    | nil => exact ⟨rfl, rfl⟩
    | cons r R ih => simp only [tE, hE, hD]; exact ih
  by_cases hm0 : m = 0
  · subst hm0
    have : R = [] := List.eq_nil_of_length_eq_zero hRl
    subst this
    refine .inr ⟨0, _, _, _, css1, ρ, Nat.le_refl _, Nat.zero_le _, fun i => ?_, h, ⟨hs1.m, ?_⟩⟩
    · rw [hgot0]; simp
    · refine hT0.sub (fun _ _ _ h => by simpa [nxOf] using h) (fun _ _ h => by simpa [tE] using h) (fun k c h => x1 k c (by simpa [hE] using h))
  · refine .inl ⟨⟨0, by omega, hgot0 0⟩, fun i hi => (by rw [hgot0] at hi; cases hi), ρ, ?_⟩
    unfold Part
    obtain ⟨e1, e2⟩ := emptyT (R := R) hgot0
    rw [e1, e2]
    refine hT0.sub (fun i L _ h => .inl h) (fun _ _ h => by simpa using h) (fun k c h => ?_)
    have h : look k (xE Y (got (Array.replicate ops.size false)) X ++ H0) = some c := by simpa using h
    rw [look_append] at h
    cases h1 : look k (xE Y (got (Array.replicate ops.size false)) X) with
    | none => rw [h1] at h; exact x1 k c (by simpa using h)
    | some d =>
      rw [h1] at h
      cases h
      obtain ⟨i, h2, _, h6⟩ := xE_mem h1
      rcases hXin _ h2 with h7 | ⟨j, h7⟩
      · exact (x2 _ h7).1
      · rw [made_src h7, hgot0] at h6; cases h6⟩

end
end Go.Sym.X
