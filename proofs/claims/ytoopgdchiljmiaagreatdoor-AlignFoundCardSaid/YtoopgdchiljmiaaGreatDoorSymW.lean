/- Regions that draw their order, where some operations may float: quiet ones for which the stores do not wait. No program in sight. -/
import Derived.Test.YtoopgdchiljmiaaGreatDoorSB
set_option linter.unusedVariables false
set_option linter.unusedSimpArgs false
namespace Go.Sym
open Go.RowKit

theorem put_frame {a : Act} {d : Option Tmp} {v : Value} : ∀ k, d ≠ some k → (a.put d v).tmps[k]? = a.tmps[k]? := by
  intro k hk
  cases d with
  | none => rfl
  | some d => exact put_other v (fun e => hk (by rw [e]))

/-- An operation writes its own slot alone. -/
theorem oper_frame {rd : Option Nat} {P : Program} {o : Oper} {a : Act} {w : World} {K : Act → World → Prop} {Q : Exit → Act → World → Prop} (hh : o.wpIn (fen rd) 2 P a w K Q) :
    o.wpIn (fen rd) 2 P a w (fun a' w' => K a' w' ∧ ∀ k, o.dst ≠ some k → a'.tmps[k]? = a.tmps[k]?) Q := by
  unfold Oper.wpIn at *
  refine ⟨hh.1, ?_⟩
  have hh := hh.2
  generalize (o.semAt (fen rd).round a.eval).run P w = r at *
  cases r with
  | ok n w' =>
    cases n <;> simp only [Oper.uponIn] at hh ⊢ <;>
      first
        | exact ⟨hh, put_frame⟩
        | exact ⟨hh, fun k hk => put_frame (a := { a with defers := _ }) k hk⟩
        | exact ⟨hh.1, CallsIn.mono hh.2 (fun e w'' he => by cases e <;> first | exact ⟨he, put_frame⟩ | exact he)⟩
        | exact ⟨hh.1, RowsIn.mono hh.2 (fun _ _ he => ⟨he, put_frame⟩)⟩
        | exact ⟨hh.1, RoundIn.mono hh.2 (fun e w'' he => by cases e <;> first | exact ⟨he, put_frame⟩ | exact he)⟩
        | exact hh
  | halt x w' => cases x <;> simp only [Oper.uponIn] at hh ⊢ <;> exact hh
theorem wpOp_frame {rd : Option Nat} {P : Program} {ops : Array Oper} {Q : Exit → Act → World → Prop} {i : Nat} {o : Oper} (ho : ops[i]? = some o) {a : Act} {w : World} {K : Act → World → Prop} (hh : wpOpIn (fen rd) 2 P ops Q i K a w) :
    wpOpIn (fen rd) 2 P ops Q i (fun a' w' => K a' w' ∧ ∀ k, o.dst ≠ some k → a'.tmps[k]? = a.tmps[k]?) a w := by
  unfold wpOpIn at *
  simp only [ho] at hh ⊢
  split
  · rename_i hw; simp only [hw, if_true] at hh; exact oper_frame hh
  · rename_i hw; simp only [hw] at hh; exact ⟨hh.1, hh.2, put_frame⟩

/-- What a float may read: the slots at hand, and those of the floats for which it waits. -/
def flT (cl : List Nat) (fl : Nat) (full : List Res) (i : Nat) (T : List (Nat × AV)) : List (Nat × AV) := match nth cl i with
  | some c => tE (bitAt (Nat.land fl c)) full ++ T
  | none => T
def noE : Env := fun _ => none
theorem noE_le (ρ : Env) : Env.le noE ρ := fun i L e => by cases e
theorem all_append {l m : List Cd} : All (l ++ m) ↔ All l ∧ All m := by
  induction l with
  | nil => exact ⟨fun h => ⟨trivial, h⟩, fun h => h.2⟩
  | cons a l ih => exact ⟨fun h => ⟨⟨h.1, (ih.1 h.2).1⟩, (ih.1 h.2).2⟩, fun h => ⟨h.1.1, ih.2 ⟨h.1.2, h.2⟩⟩⟩

/-- Two values that are written alike. -/
def avB : AV → AV → Bool
  | .ptr i e sz j, .ptr i' e' sz' j' => Nat.beq i i' && Nat.beq e e' && Nat.beq sz sz' && Nat.beq j j'
  | .sl i n, .sl i' n' => Nat.beq i i' && Nat.beq n n'
  | .mp i, .mp i' => Nat.beq i i'
  | .yld i, .yld i' => Nat.beq i i'
  | .lit v, .lit u => valB v u
  | _, _ => false
theorem avB_eq {a b : AV} (h : avB a b = true) : a = b := by
  cases a <;> cases b <;> try (cases h; done)
  · rw [valB_eq h]
  · simp only [avB, Bool.and_eq_true] at h
    obtain ⟨⟨⟨h1, h2⟩, h3⟩, h4⟩ := h
    rw [Nat.eq_of_beq_eq_true h1, Nat.eq_of_beq_eq_true h2, Nat.eq_of_beq_eq_true h3, Nat.eq_of_beq_eq_true h4]
  · simp only [avB, Bool.and_eq_true] at h
    rw [Nat.eq_of_beq_eq_true h.1, Nat.eq_of_beq_eq_true h.2]
  · rw [Nat.eq_of_beq_eq_true h]
  · rw [Nat.eq_of_beq_eq_true h]
/-- Two values alike. -/
def alikeC (u av : AV) : Cd := match AV.den noE u, AV.den noE av with
  | some x, some y => cv x y
  | _, _ => ⟨u = av, avB u av, avB_eq⟩
theorem alikeC_den {u av : AV} (h : (alikeC u av).p) {ρ : Env} {v : Value} (hu : u.den ρ = some v) : av.den ρ = some v := by
  unfold alikeC at h
  split at h
  · rename_i x y hx hy
    have h : x = y := h
    subst h
    rw [AV.den_mono (noE_le ρ) _ _ hx] at hu
    cases hu
    exact AV.den_mono (noE_le ρ) _ _ hy
  · have h : u = av := h
    subst h
    exact hu

/-- The floats of a region are quiet, and give what they gave, wherever they are run. -/
def flOk (cfg : Cfg) (ops : List Oper) (cl : List Nat) (full : List Res) (fl : Nat) (T : List (Nat × AV)) (H : List (Nat × Chunk)) : List Res → Bool
  | [] => true
  | ⟨i, dst, av, N, _, _⟩ :: R => match bitAt fl i with
    | false => flOk cfg ops cl full fl T H R
    | true => match nth ops i, dst, av, N with
      | some o, some d, av, [] => match look d T, o.guard, kindOf o.op, pureOp cfg (flT cl fl full i T) H none none o [] with
        | none, none, 0, some (_, _) => match Nat.blt d cfg.nt with
          | true => flOk cfg ops cl full fl T H R
          | false => false
        | _, _, _, _ => false
      | _, _, _, _ => false
/-- .. and what they give is what they gave. -/
def flCs (cfg : Cfg) (ops : List Oper) (cl : List Nat) (full : List Res) (fl : Nat) (T : List (Nat × AV)) (H : List (Nat × Chunk)) : List Res → List Cd
  | [] => []
  | ⟨i, _, av, _, _, _⟩ :: R => match bitAt fl i with
    | false => flCs cfg ops cl full fl T H R
    | true => match nth ops i, av with
      | some o, av => match pureOp cfg (flT cl fl full i T) H none none o [] with
        | some (u, acc) => alikeC u av :: (acc ++ flCs cfg ops cl full fl T H R)
        | _ => flCs cfg ops cl full fl T H R
      | _, _ => flCs cfg ops cl full fl T H R
structure FlAt (cfg : Cfg) (ops : Array Oper) (cl : List Nat) (full : List Res) (fl : Nat) (T : List (Nat × AV)) (H : List (Nat × Chunk)) (r : Res) (o : Oper) (d : Tmp) : Prop where
  op : ops[r.i]? = some o
  dst : r.dst = some d
  N : r.N = []
  free : look d T = none
  guard : o.guard = none
  lt : d < cfg.nt
  run : ∃ u acc, pureOp cfg (flT cl fl full r.i T) H none none o [] = some (u, acc) ∧ All acc ∧ (alikeC u r.av).p
theorem flOk_mem {cfg : Cfg} {ops : Array Oper} {cl : List Nat} {full : List Res} {fl : Nat} {T : List (Nat × AV)} {H : List (Nat × Chunk)} : ∀ {R : List Res}, flOk cfg ops.toList cl full fl T H R = true → All (flCs cfg ops.toList cl full fl T H R) → ∀ r ∈ R, fl.testBit r.i = true → ∃ o d, FlAt cfg ops cl full fl T H r o d
  | [], _, _, r, hr, _ => by cases hr
  | x :: R, h, hc, r, hr, hb => by
    obtain ⟨i, dst, av, N, lo, hi⟩ := x
    simp only [flOk] at h
    simp only [flCs] at hc
    split at h
    · rename_i hbi
      rw [hbi] at hc
      rcases List.mem_cons.1 hr with rfl | hr
      · rw [bitAt_eq] at hbi; rw [hbi] at hb; cases hb
      · exact flOk_mem h hc r hr hb
    · rename_i hbi
      rw [hbi] at hc
      split at h
      · rename_i av _ _ _ _ o d h1
        split at h
        · rename_i u acc h2 h3 h4 h5
          split at h
          · rename_i h6
            simp only [h1, h5] at hc
            obtain ⟨hu, hc2⟩ := hc
            obtain ⟨ha, hc3⟩ := all_append.1 hc2
            rcases List.mem_cons.1 hr with rfl | hr
            · rw [nth_eq, Array.getElem?_toList] at h1
              exact ⟨o, d, h1, rfl, rfl, h2, h3, Nat.le_of_ble_eq_true h6, u, acc, h5, ha, hu⟩
            · exact flOk_mem h hc3 r hr hb
          · cases h
        · cases h
      · cases h

def dstApart (d : Option Tmp) (fl : Nat) : List Res → Bool
  | [] => true
  | ⟨i, dst, _, _, _, _⟩ :: R => match bitAt fl i with
    | false => dstApart d fl R
    | true => match d, dst with
      | some d, some d' => match Nat.beq d d' with | true => false | false => dstApart (some d) fl R
      | d, _ => dstApart d fl R
theorem dstApart_mem {d : Option Tmp} {fl : Nat} : ∀ {R : List Res}, dstApart d fl R = true → ∀ r ∈ R, fl.testBit r.i = true → ∀ k, r.dst = some k → d ≠ some k
  | [], _, r, hr, _, _, _ => by cases hr
  | x :: R, h, r, hr, hb, k, hk => by
    obtain ⟨i, dst, av, N, lo, hi⟩ := x
    simp only [dstApart] at h
    split at h
    · rename_i hbi
      rcases List.mem_cons.1 hr with rfl | hr
      · rw [bitAt_eq] at hbi; rw [hbi] at hb; cases hb
      · exact dstApart_mem h r hr hb k hk
    · split at h
      · split at h
        · cases h
        · rename_i hne
          rcases List.mem_cons.1 hr with rfl | hr
          · cases hk
            rintro e
            cases e
            simp at hne
          · exact dstApart_mem h r hr hb k hk
      · rename_i hno
        rcases List.mem_cons.1 hr with rfl | hr
        · rintro rfl
          exact hno _ _ rfl hk
        · exact dstApart_mem h r hr hb k hk

/-- The forced operations in their order; each one sees the floats for which it waits. -/
def runB (cfg : Cfg) (t : Told) (ops : List Oper) (cl : List Nat) (R : List Res) : Nat → List Oper → Nat → List (Nat × AV) → List (Nat × Chunk) → Nat → List (List Cd) → Option (St × List (List Cd))
  | _, [], fl, T, H, nx, css => match flOk cfg ops cl R fl T H R with
    | true => forceK (tE (bitAt fl) R ++ T) [] fun T' => forceK (flCs cfg ops cl R fl T H R) [] fun fc => some (⟨T', H, nx⟩, fc :: css)
    | false => none
  | j, o :: rest, fl, T, H, nx, css => match flOk cfg ops cl R fl T H R, nth cl j, dstApart o.dst fl R with
    | true, some c, true => match stepOp cfg t ops j o (tE (bitAt (Nat.land fl c)) R ++ T) H nx [] with
      | some (⟨T', H', nx'⟩, cs) => forceK (flCs cfg ops cl R fl T H R) [] fun fc => runB cfg t ops cl R (j + 1) rest (Nat.xor fl (Nat.land fl c)) T' H' nx' (fc :: cs :: css)
      | none => none
    | _, _, _ => none
theorem runB_acc {cfg : Cfg} {t : Told} {ops : List Oper} {cl : List Nat} {R : List Res} : ∀ {rest : List Oper} {j fl : Nat} {T : List (Nat × AV)} {H : List (Nat × Chunk)} {nx : Nat} {css css' : List (List Cd)} {s : St}, runB cfg t ops cl R j rest fl T H nx css = some (s, css') → AllL css' → AllL css
  | [], j, fl, T, H, nx, css, css', s, h, hc => by
    simp only [runB, force_eq] at h
    split at h
    · cases h; exact hc.2
    · cases h
  | o :: rest, j, fl, T, H, nx, css, css', s, h, hc => by
    simp only [runB, force_eq] at h
    split at h
    · split at h
      · exact (runB_acc h hc).2.2
      · cases h
    · cases h

def fullF (cl : List Nat) (m fl : Nat) : Nat → Bool
  | 0 => true
  | n + 1 => match Nat.blt n m with
    | true => true
    | false => match nth cl n with
      | some c => match Nat.beq (Nat.land (Nat.lor c fl) (Nat.shiftLeft 1 n - 1)) (Nat.shiftLeft 1 n - 1) with
        | true => fullF cl m fl n
        | false => false
      | none => false
theorem fullF_mem {cl : List Nat} {m fl : Nat} : ∀ {n : Nat}, fullF cl m fl n = true → ∀ i, m ≤ i → i < n → ∃ c, nth cl i = some c ∧ ∀ k, k < i → fl.testBit k = false → c.testBit k = true
  | 0, _, i, _, hi => by omega
  | n + 1, h, i, hm, hi => by
    simp only [fullF] at h
    split at h
    · rename_i hb
      have : n < m := Nat.le_of_ble_eq_true hb
      omega
    · split at h
      · rename_i c hc
        split at h
        · rename_i hb
          by_cases e : i = n
          · subst e
            refine ⟨c, hc, fun k hk hf => ?_⟩
            have h1 : (c ||| fl) &&& (1 <<< i - 1) = 1 <<< i - 1 := Nat.eq_of_beq_eq_true hb
            have h2 : ((c ||| fl) &&& (1 <<< i - 1)).testBit k = true := by
              rw [h1, Nat.one_shiftLeft, Nat.testBit_two_pow_sub_one]; simpa using hk
            rw [Nat.testBit_and, Nat.testBit_or, Bool.and_eq_true, Bool.or_eq_true] at h2
            rcases h2.1 with h3 | h3
            · exact h3
            · rw [hf] at h3; cases h3
          · exact fullF_mem h i hm (by omega)
        · cases h
      · cases h

section
variable {cfg : Cfg} {F : Frm} {t : Told} {ops : Array Oper} {cl : List Nat} {T0 : List (Nat × AV)} {H0 : List (Nat × Chunk)} {nx0 m : Nat} {R : List Res} {s' : St} {css' : List (List Cd)} {Q : Exit → St → Prop}

/-- The floats that are listed have been run. -/
def FlVals (fl : Nat) (R : List Res) (listed : Array Bool) (ρ : Env) (a : Act) : Prop := ∀ r ∈ R, fl.testBit r.i = true → got listed r.i = true → ∀ d, r.dst = some d → ∃ v, r.av.den ρ = some v ∧ a.tmps[d]? = some v

theorem holdsFl {fl : Nat} {T : List (Nat × AV)} {H : List (Nat × Chunk)} {nx : Nat} {ρ : Env} {a : Act} {w : World} {listed : Array Bool} (hfl : flOk cfg ops.toList cl R fl T H R = true) (hfc : All (flCs cfg ops.toList cl R fl T H R)) (hH : Holds F T H nx ρ a w) {D : Nat → Bool} (hD : ∀ i, D i = true → fl.testBit i = true ∧ got listed i = true) (hv : FlVals fl R listed ρ a) :
    Holds F (tE D R ++ T) H nx ρ a w := by
  refine ⟨hH.m, { hH.I with tm := fun k av e => ?_ }⟩
  rw [look_append] at e
  cases h1 : look k (tE D R) with
  | some u =>
    rw [h1] at e
    cases e
    obtain ⟨r, h2, h3, h4, rfl⟩ := tE_look h1
    obtain ⟨h5, h6⟩ := hD _ h3
    exact hv r h2 h5 h6 k h4
  | none =>
    rw [h1] at e
    exact hH.I.tm k av (by simpa using e)

def Stand2 (cfg : Cfg) (F : Frm) (t : Told) (ops : Array Oper) (cl : List Nat) (fl0 : Nat) (T0 : List (Nat × AV)) (H0 : List (Nat × Chunk)) (nx0 m : Nat) (R : List Res) (s' : St) (css' : List (List Cd)) (listed : Array Bool) (a : Act) (w : World) : Prop :=
  ((∃ i, i < m ∧ fl0.testBit i = false ∧ got listed i = false) ∧ (∀ i, got listed i = true → i < m) ∧ ∃ ρ, Part F T0 H0 nx0 R (got listed) ρ a w) ∨
  (∃ j fl T H nx css ρ, m ≤ j ∧ j ≤ ops.size ∧ (∀ i, fl.testBit i = true → fl0.testBit i = true) ∧ (∀ i, i < m → fl.testBit i = false → got listed i = true) ∧ (∀ i, m ≤ i → (got listed i = true ↔ i < j)) ∧
    runB cfg t ops.toList cl R j (ops.toList.drop j) fl T H nx css = some (s', css') ∧ Holds F T H nx ρ a w ∧ FlVals fl R listed ρ a)

theorem runB_fl {fl j : Nat} {rest : List Oper} {T : List (Nat × AV)} {H : List (Nat × Chunk)} {nx : Nat} {css : List (List Cd)} (h : runB cfg t ops.toList cl R j rest fl T H nx css = some (s', css')) (hc : AllL css') : flOk cfg ops.toList cl R fl T H R = true ∧ All (flCs cfg ops.toList cl R fl T H R) := by
  cases rest with
  | nil =>
    simp only [runB, force_eq] at h
    split at h
    · rename_i h1; cases h; exact ⟨h1, hc.1⟩
    · cases h
  | cons o rest =>
    simp only [runB, force_eq] at h
    split at h
    · rename_i h1 _ _
      split at h
      · exact ⟨h1, (runB_acc h hc).1⟩
      · cases h
    · cases h

theorem drawn_sound2 {fl0 : Nat} (hC : CfgOk F cfg) (ht : t.ok F.P) (hcl : clOk cl ops.size ops.toList 0 = true) (hfull : fullF cl m fl0 ops.size = true) (hfm : ∀ i, fl0.testBit i = true → i < m) (hg : Good cfg t ops cl T0 H0 nx0 R) (hRl : R.length = m) (hmn : m ≤ ops.size) (hH0 : ∀ i c, look i H0 = some c → i < nx0) (hm : F.m ≤ nx0)
    {css1 : List (List Cd)} (hrun : runB cfg t ops.toList cl R m (ops.toList.drop m) fl0 (tE (fun i => !fl0.testBit i) R ++ T0) (hE (fun i => !fl0.testBit i) R ++ H0) (nxOf nx0 R) css1 = some (s', css')) (hc : AllL css') (hq : Q .normal s') :
    ∀ (fuel : Nat) (listed : Array Bool) (a : Act) (w : World), listed.size = ops.size → Closed cl listed → (List.range ops.size).countP (fun i => !got listed i) ≤ fuel → Stand2 cfg F t ops cl fl0 T0 H0 nx0 m R s' css' listed a w →
      wpAnyIn (fen F.rd) 2 F.P .any ops (Post F Q) fuel listed a w := by
  have hcm : ∀ i o, ops[i]? = some o → ∃ c, nth cl i = some c ∧ (∀ e ∈ o.after, Region.binds .any e = true → e.on < i) ∧
      (∀ k, c.testBit k = true → ∃ e ∈ o.after, Region.binds .any e = true ∧ (k = e.on ∨ ∃ c', nth cl e.on = some c' ∧ c'.testBit k = true)) := by
    intro i o h
    obtain ⟨c, h1, h2, h3, _⟩ := clOk_mem hcl i o (by rw [Array.getElem?_toList]; exact h)
    exact ⟨c, by simpa using h1, by simpa using h2, h3⟩
  have waits : ∀ {listed : Array Bool} {i : Nat} {o : Oper}, Closed cl listed → ops[i]? = some o → (∀ e ∈ o.after, Region.binds .any e = true → got listed e.on = true) → ∀ c k, nth cl i = some c → c.testBit k = true → got listed k = true := by
    intro listed i o hcd ho hdep c k h1 h2
    obtain ⟨c', a1, _, a3⟩ := hcm i o ho
    rw [h1] at a1; cases a1
    obtain ⟨e, b1, b2, b3⟩ := a3 k h2
    have := hdep e b1 b2
    rcases b3 with rfl | ⟨c', b4, b5⟩
    · exact this
    · exact hcd e.on c' k this b4 b5
  have some_ready : ∀ {listed : Array Bool}, listed.size = ops.size → ∀ i, i < ops.size → got listed i = false → ∃ j, j ∈ Region.ready .any ops listed := by
    intro listed hs i
    induction i using Nat.strongRecOn with
    | _ i ih =>
      intro hi hn
      by_cases hall : ∀ e ∈ (ops[i]).after, Region.binds .any e = true → got listed e.on = true
      · exact ⟨i, (ready_iff hs).2 ⟨ops[i], by simp [hi], hn, hall⟩⟩
      · have : ∃ e ∈ (ops[i]).after, Region.binds .any e = true ∧ got listed e.on = false := by
          refine Classical.byContradiction fun hcon => ?_
          refine hall fun e he hb => ?_
          by_cases hge : got listed e.on = true
          · exact hge
          · exact absurd ⟨e, he, hb, by simpa using hge⟩ hcon
        obtain ⟨e, he, hb, hge⟩ := this
        obtain ⟨_, _, h2, _⟩ := hcm i ops[i] (by simp [hi])
        have hlt := h2 e he hb
        exact ih e.on hlt (by omega) hge
  have hid : ∀ x ∈ R, x ∈ R := fun _ h => h
  have toB : ∀ {listed : Array Bool} {ρ : Env} {a : Act} {w : World}, (∀ i, i < m → fl0.testBit i = false → got listed i = true) → Part F T0 H0 nx0 R (got listed) ρ a w →
      Holds F (tE (fun i => !fl0.testBit i) R ++ T0) (hE (fun i => !fl0.testBit i) R ++ H0) (nxOf nx0 R) ρ a w ∧ FlVals fl0 R listed ρ a := by
    intro listed ρ a w hl hp
    have hge := hg.ge
    have hall : ∀ x ∈ R, (fun i : Nat => !fl0.testBit i) x.i = true → got listed x.i = true ∧ x ∈ R := fun x hx h => ⟨hl x.i (by rw [← hRl]; exact (hge.2 x hx).2.2) (by simpa using h), hx⟩
    refine ⟨⟨by omega, Interp.sub hp (fun i L _ h => ?_) (fun k v h => hg.tSub hid hid hall h) (fun k v h => hg.hSub hH0 hid hid hall h)⟩, fun r hr _ hgr d hd => ?_⟩
    · rcases h with h | ⟨r, h1, _, h2, h3⟩
      · show i < _; omega
      · have := (hge.2 r h1).2.1; show i < _; omega
    · have hin := hg.tIn hid r hr hgr d hd
      obtain ⟨v', h1, h2⟩ := hp.tm d r.av (by rw [look_append, hin]; rfl)
      exact ⟨v', h1, h2⟩
  have final : ∀ {listed : Array Bool} {a : Act} {w : World}, listed.size = ops.size → (∀ i, i < ops.size → got listed i = true) → Stand2 cfg F t ops cl fl0 T0 H0 nx0 m R s' css' listed a w → Post F Q .normal a w := by
    intro listed a w hs hall hst
    rcases hst with ⟨⟨i, h1, _, h2⟩, _⟩ | ⟨j, fl, T, H, nx, css, ρ, h1, h2, hf, hl, h3, h4, h5, h6⟩
    · rw [hall i (by omega)] at h2; cases h2
    · have hj : j = ops.size := by
        rcases Nat.lt_or_ge j ops.size with h | h
        · exact absurd ((h3 j h1).1 (hall j h)) (by omega)
        · omega
      rw [hj, List.drop_of_length_le (by simp)] at h4
      simp only [runB, force_eq] at h4
      split at h4
      · rename_i hfl
        cases h4
        refine ⟨_, ρ, hq, holdsFl hfl hc.1 h5 (fun i hi => ?_) h6⟩
        rw [bitAt_eq] at hi
        exact ⟨hi, hall i (by have := hfm i (hf i hi); omega)⟩
      · cases h4
  intro fuel
  induction fuel with
  | zero =>
    intro listed a w hs hcd hcount hst
    have hall : ∀ i, i < ops.size → got listed i = true := by
      intro i hi
      have h0 : (List.range ops.size).countP (fun i => !got listed i) = 0 := by omega
      rw [List.countP_eq_zero] at h0
      have := h0 i (List.mem_range.2 hi)
      simpa using this
    refine ⟨?_, final hs hall hst⟩
    rw [List.eq_nil_iff_forall_not_mem]
    intro i hi
    obtain ⟨o, h1, h2, _⟩ := (ready_iff hs).1 hi
    rw [hall i (Array.getElem?_eq_some_iff.1 h1).1] at h2; cases h2
  | succ fuel ih =>
    intro listed a w hs hcd hcount hst
    have next : ∀ {i : Nat} {o : Oper}, ops[i]? = some o → got listed i = false → (∀ e ∈ o.after, Region.binds .any e = true → got listed e.on = true) → (listed.setIfInBounds i true).size = ops.size ∧ Closed cl (listed.setIfInBounds i true) ∧
        (List.range ops.size).countP (fun k => !got (listed.setIfInBounds i true) k) ≤ fuel := by
      intro i o ho hn hdep
      have hi : i < listed.size := by rw [hs]; exact (Array.getElem?_eq_some_iff.1 ho).1
      refine ⟨by simp [hs], fun x c k h1 h2 h3 => ?_, ?_⟩
      · rw [got_set hi] at h1 ⊢
        rcases h1 with h1 | rfl
        · exact .inl (hcd x c k h1 h2 h3)
        · exact .inl (waits hcd ho hdep c k h2 h3)
      · have := countP_lt (p := fun k => !got listed k) (q := fun k => !got (listed.setIfInBounds i true) k) (l := List.range ops.size) (x := i) (List.mem_range.2 (by omega)) (fun y hy => ?_) (by simp [hn]) (by
          have := (got_set hi i).2 (.inr rfl); simp [this])
        · omega
        · simp only [Bool.not_eq_true', Bool.not_eq_true] at hy ⊢
          cases h : got listed y with
          | false => rfl
          | true => rw [(got_set hi y).2 (.inl h)] at hy; cases hy
    refine ⟨fun hempty => final hs (fun i hi => ?_) hst, fun i hi => ?_⟩
    · cases hx : got listed i with
      | true => rfl
      | false =>
        obtain ⟨k, hk⟩ := some_ready hs i hi hx
        rw [hempty] at hk; cases hk
    · obtain ⟨o, h1, h2, h3⟩ := (ready_iff hs).1 hi
      obtain ⟨b1, b2, b3⟩ := next h1 h2 h3
      have hil : i < listed.size := by rw [hs]; exact (Array.getElem?_eq_some_iff.1 h1).1
      have nonfl : ∀ k, m ≤ k → fl0.testBit k = false := fun k hk => by
        cases hx : fl0.testBit k with
        | false => rfl
        | true => have := hfm k hx; omega
      rcases hst with ⟨⟨u, hu1, hu3, hu2⟩, hst1, ρ, hp⟩ | ⟨j, fl, T, H, nx, css, ρ, hmj, hjn, hff, hl, hlj, hr, hH, hv⟩
      · have him : i < m := by
          rcases Nat.lt_or_ge i m with h | h
          · exact h
          · obtain ⟨c, a1, a2⟩ := fullF_mem hfull i h (by omega)
            have := waits hcd h1 h3 c u a1 (a2 u (by omega) hu3)
            rw [this] at hu2; cases hu2
        obtain ⟨r, hr, hri⟩ := hg.get i (by omega)
        subst hri
        refine part_step (Q := Post F Q) hC ht hg hH0 hm hp hr h2 (fun c k hcc hb => ?_) (D' := got (listed.setIfInBounds r.i true)) (fun k => got_set hil k) fun ρ' a' w' hp' => ih _ a' w' b1 b2 b3 ?_
        · rw [bitAt_eq] at hb
          exact waits hcd h1 h3 c k hcc hb
        · have hl' : ∀ k, got (listed.setIfInBounds r.i true) k = true → k < m := fun k hk => by
            rcases (got_set hil k).1 hk with h | rfl
            · exact hst1 k h
            · exact him
          by_cases hall : ∃ k, k < m ∧ fl0.testBit k = false ∧ got (listed.setIfInBounds r.i true) k = false
          · exact .inl ⟨hall, hl', ρ', hp'⟩
          · have hall' : ∀ k, k < m → fl0.testBit k = false → got (listed.setIfInBounds r.i true) k = true := fun k hk hf => by
              cases hx : got (listed.setIfInBounds r.i true) k with
              | true => rfl
              | false => exact absurd ⟨k, hk, hf, hx⟩ hall
            obtain ⟨c1, c2⟩ := toB hall' hp'
            exact .inr ⟨m, fl0, _, _, _, css1, ρ', Nat.le_refl _, hmn, fun _ h => h, hall', fun k hk => ⟨fun h => (by have := hl' k h; omega), fun h => (by omega)⟩, hrun, c1, c2⟩
      · obtain ⟨hfl, hfc⟩ := runB_fl hr hc
        rcases Nat.lt_or_ge i m with him | him
        · -- a float
          have hfi : fl.testBit i = true := by
            cases hx : fl.testBit i with
            | true => rfl
            | false => rw [hl i him hx] at h2; cases h2
          obtain ⟨r, hrR, hri⟩ := hg.get i (by omega)
          subst hri
          obtain ⟨o', d, hf⟩ := flOk_mem hfl hfc r hrR hfi
          have : o' = o := by have := hf.op; rw [h1] at this; cases this; rfl
          subst this
          obtain ⟨_, _, o2, _, _, g1, g2, _⟩ := (hg.key r hrR).2.2
          have : o2 = o' := by rw [h1] at g1; cases g1; rfl
          subst this
          have hod : o2.dst = some d := by rw [← g2]; exact hf.dst
          obtain ⟨fav, facc, hfrun, hfacc, hfden⟩ := hf.run
          have hTi : Holds F (flT cl fl R r.i T) H nx ρ a w := by
            unfold flT
            split
            · rename_i c hcj
              have bits : ∀ k, bitAt (Nat.land fl c) k = true → fl.testBit k = true ∧ c.testBit k = true := by
                intro k hk
                rw [bitAt_eq] at hk
                have : (fl &&& c).testBit k = true := hk
                rw [Nat.testBit_and, Bool.and_eq_true] at this
                exact this
              exact holdsFl hfl hfc hH (D := bitAt (Nat.land fl c)) (fun k hk => ⟨(bits k hk).1, waits hcd h1 h3 c k hcj (bits k hk).2⟩) hv
            · exact hH
          have hk0 : Know cfg F.P (fun k => look k (flT cl fl R r.i T)) (fun k => look k H) ρ a w := hC.know hTi.I
          obtain ⟨_, u, e1, e2⟩ := pureOp_sound hk0 (fun c e => by cases e) hfrun hfacc
          have e3 := alikeC_den hfden e1
          have hw : Region.wanted o2 (yielded ops a.tmps) = true := by simp [Region.wanted, hf.guard]
          refine wpOpIn_on h1 hw (wpIn_ok (pureOp_nd hfrun) e2 (.inl rfl) (ih _ _ _ b1 b2 b3 (.inr ⟨j, fl, T, H, nx, css, ρ, hmj, hjn, hff, fun k hk hf' => (got_set hil k).2 (.inl (hl k hk hf')), fun k hk => ?_, hr, ⟨hH.m, ?_⟩, fun r' hr' hb' hg' d' hd' => ?_⟩)))
          · rw [got_set hil, hlj k hk]
            constructor
            · rintro (h | h)
              · exact h
              · omega
            · exact .inl
          · have hput := hH.I.put o2.dst (av := r.av) (v := u) (fun k e => by rw [hod] at e; cases e; rw [← hC.nt]; exact hf.lt) e3
            refine hput.sub (fun _ _ _ h => h) (fun k u' h => ?_) (fun _ _ h => h)
            rw [hod]
            simp only [updO]
            have : k ≠ d := by rintro rfl; rw [hf.free] at h; cases h
            rw [upd_other _ _ this]
            exact h
          · rw [hod]
            by_cases he : r'.i = r.i
            · have := hg.same r' hr' r hrR he
              subst this
              rw [hf.dst] at hd'; cases hd'
              refine ⟨u, e3, put_at _ ?_⟩
              rw [hH.I.size, ← hC.nt]; exact hf.lt
            · have hne := (hg.uniq r' hr' r hrR he).1 d' hd'
              rw [hf.dst] at hne
              have : d' ≠ d := fun e => hne (by rw [e])
              rw [put_other _ this]
              refine hv r' hr' hb' ?_ d' hd'
              rcases (got_set hil r'.i).1 hg' with h | h
              · exact h
              · exact absurd h he
        · -- a forced one
          have hij : i = j := by
            have hji : ¬ i < j := fun h => by rw [(hlj i him).2 h] at h2; cases h2
            by_cases hij : i = j
            · exact hij
            · obtain ⟨c, a1, a2⟩ := fullF_mem hfull i him (by omega)
              have := waits hcd h1 h3 c j a1 (a2 j (by omega) (nonfl j hmj))
              have := (hlj j hmj).1 this
              omega
          subst hij
          have hj : i < ops.size := by omega
          have hdrop : ops.toList.drop i = o :: ops.toList.drop (i + 1) := by
            rw [List.drop_eq_getElem_cons (by simpa using hj)]
            congr 1
            have := (Array.getElem?_eq_some_iff.1 h1).2
            simpa using this
          rw [hdrop] at hr
          simp only [runB, force_eq] at hr
          split at hr
          · rename_i c _ hcj hap
            split at hr
            · rename_i T' H' nx' cs hst'
              have hcs : All cs := (runB_acc hr hc).2.1
              have bits : ∀ k, bitAt (Nat.land fl c) k = true → fl.testBit k = true ∧ c.testBit k = true := by
                intro k hk
                rw [bitAt_eq] at hk
                have : (fl &&& c).testBit k = true := hk
                rw [Nat.testBit_and, Bool.and_eq_true] at this
                exact this
              have hTj := holdsFl hfl hfc hH (D := bitAt (Nat.land fl c)) (fun k hk => ⟨(bits k hk).1, waits hcd h1 h3 c k hcj (bits k hk).2⟩) hv
              have step := (stepOp_sound (Q := Post F Q) (rd := F.rd) hC ht hTj h1 hst' hcs (K := fun a' w' => ∃ ρ', Env.le ρ ρ' ∧ Holds F T' H' nx' ρ' a' w') (fun ρ' a' w' hle hH' => ⟨ρ', hle, hH'⟩)).2
              refine wpOpIn_mono (fun a' w' hk => ?_) (wpOp_frame h1 step)
              obtain ⟨⟨ρ', hle, hH'⟩, hfr⟩ := hk
              have xor : ∀ k, (Nat.xor fl (Nat.land fl c)).testBit k = (fl.testBit k && !c.testBit k) := by
                intro k
                show (fl ^^^ (fl &&& c)).testBit k = _
                rw [Nat.testBit_xor, Nat.testBit_and]
                cases fl.testBit k <;> cases c.testBit k <;> rfl
              refine ih _ a' w' b1 b2 b3 (.inr ⟨i + 1, _, T', H', nx', _, ρ', by omega, by omega, fun k hk => hff k ?_, fun k hk hf' => ?_, fun k hk => ?_, hr, hH', fun r' hr' hb' hg' d' hd' => ?_⟩)
              · rw [xor, Bool.and_eq_true] at hk; exact hk.1
              · rw [got_set hil]
                rw [xor] at hf'
                left
                cases hx : fl.testBit k with
                | false => exact hl k hk hx
                | true =>
                  rw [hx] at hf'
                  have : c.testBit k = true := by simpa using hf'
                  exact waits hcd h1 h3 c k hcj this
              · rw [got_set hil, hlj k hk]; omega
              · rw [xor, Bool.and_eq_true] at hb'
                rw [hfr d' (dstApart_mem hap r' hr' hb'.1 d' hd')]
                suffices h : ∃ v, r'.av.den ρ = some v ∧ a.tmps[d']? = some v by
                  obtain ⟨v, h1, h2⟩ := h
                  exact ⟨v, AV.den_mono hle _ _ h1, h2⟩
                refine hv r' hr' hb'.1 ?_ d' hd'
                rcases (got_set hil r'.i).1 hg' with h | h
                · exact h
                · have := hfm r'.i (hff _ hb'.1); omega
            · cases hr
          · cases hr

/-- Some of the first operations are no floats. -/
def nonFl (fl : Nat) : Nat → Bool
  | 0 => false
  | n + 1 => match bitAt fl n with
    | false => true
    | true => nonFl fl n
theorem nonFl_mem {fl : Nat} : ∀ {n : Nat}, nonFl fl n = true → ∃ i, i < n ∧ fl.testBit i = false
  | 0, h => by cases h
  | n + 1, h => by
    simp only [nonFl] at h
    split at h
    · rename_i hb; rw [bitAt_eq] at hb; exact ⟨n, Nat.lt_succ_self n, hb⟩
    · obtain ⟨i, h1, h2⟩ := nonFl_mem h; exact ⟨i, by omega, h2⟩
def runDrawn2 (cfg : Cfg) (t : Told) (cl : List Nat) (m fl : Nat) (ops : List Oper) (T : List (Nat × AV)) (H : List (Nat × Chunk)) (nx : Nat) : Option (St × List (List Cd)) :=
  match clOk cl ops.length ops 0 && fullF cl m fl ops.length && Nat.blt fl (Nat.shiftLeft 1 m) && Nat.blt 0 m && nonFl fl m with
  | true => forceK (delKeys ops m T) [] fun T0 => match stab cfg t ops cl T0 H m 0 ops nx [] [] with
    | some (R, nx1, css) => forceK (tE (fun i => !bitAt fl i) R ++ T0) [] fun T1 => forceK (hE (fun i => !bitAt fl i) R ++ H) [] fun H1 => runB cfg t ops cl R m (ops.drop m) fl T1 H1 nx1 css
    | none => none
  | false => none

theorem lwp_drawn2 (hC : CfgOk F cfg) (hmx : F.P.follows .mixedOrders = true) (t : Told) (ht : t.ok F.P) (cl : List Nat) (m fl : Nat) {id : Nat} {ops : Array Oper} {T : List (Nat × AV)} {H : List (Nat × Chunk)} {nx : Nat} {s' : St} {css : List (List Cd)}
    (h : runDrawn2 cfg t cl m fl ops.toList T H nx = some (s', css)) (hc : AllL css) (hq : Q .normal s') : LWP F (.region id ops true) Q ⟨T, H, nx⟩ := ⟨fun ρ a w hs => by
  unfold runDrawn2 at h
  split at h
  case h_2 => cases h
  rename_i hb
  simp only [Bool.and_eq_true] at hb
  obtain ⟨⟨⟨⟨hcl, hfull⟩, hflt⟩, hm0⟩, hf0'⟩ := hb
  obtain ⟨i0, hi0, hf0⟩ := nonFl_mem hf0'
  rw [force_eq] at h
  split at h
  case h_2 => cases h
  rename_i R nx1 css1 hstab
  simp only [force_eq] at h
  have hs1 : Holds F T H nx ρ a { w with drawn := w.drawn + 1 } := Holds.drew hs
  obtain ⟨_, hg, hRl, hnx⟩ := stab_good (nx0 := nx) hstab (fun k => by simp) trivial rfl rfl (runB_acc h hc)
  subst hnx
  have hRl : R.length = m := by omega
  have hm0 : 0 < m := Nat.le_of_ble_eq_true hm0
  have hfm : ∀ i, fl.testBit i = true → i < m := by
    intro i hi
    have h1 : fl < 2 ^ m := by have := Nat.le_of_ble_eq_true hflt; rwa [show Nat.shiftLeft 1 m = 2 ^ m from Nat.one_shiftLeft m] at this
    rcases Nat.lt_or_ge i m with h2 | h2
    · exact h2
    · have : fl < 2 ^ i := Nat.lt_of_lt_of_le h1 (Nat.pow_le_pow_right (by decide) h2)
      rw [Nat.testBit_lt_two_pow this] at hi
      cases hi
  have hmn : m ≤ ops.size := by
    rcases Nat.lt_or_ge ops.size m with hlt | hge
    · obtain ⟨r, hr, hri⟩ := hg.get (m - 1) (by omega)
      obtain ⟨_, _, _, _, o, _, _, e, _⟩ := hg.key r hr
      have := (Array.getElem?_eq_some_iff.1 e).1
      omega
    · exact hge
  have hH0 : ∀ i c, look i H = some c → i < nx := by
    intro i c e
    have hh := hs1.I.heap.holds i c e
    have : ∃ L, ρ i = some L := by
      cases c with
      | blk t l => obtain ⟨g, cap, vs, e, _⟩ := hh; exact ⟨_, e⟩
      | rb t l => obtain ⟨g, cap, vs, e, _⟩ := hh; exact ⟨_, e⟩
      | row t n sz c => obtain ⟨L, vs, e, _⟩ := hh; exact ⟨_, e⟩
      | ro n sz c => obtain ⟨L, vs, e, _⟩ := hh; exact ⟨_, e⟩
      | obj k => obtain ⟨g, cap, o, e, _⟩ := hh; exact ⟨_, e⟩
    obtain ⟨L, hL⟩ := this
    exact hs1.I.dom i L hL
  have hbit : (fun i => !bitAt fl i) = fun i => !fl.testBit i := funext fun i => by rw [bitAt_eq]
  rw [hbit] at h
  refine wpIn_region_any hmx ?_
  have hgot0 : ∀ k, got (Array.replicate ops.size false) k = false := by
    intro k; unfold got; rw [Array.getD_eq_getD_getElem?, Array.getElem?_replicate]; split <;> rfl
  rw [Array.length_toList] at hcl hfull
  refine drawn_sound2 hC ht hcl hfull hfm hg hRl hmn hH0 hs1.m h hc hq ops.size _ a _ (by simp) (fun i c k hi => (by rw [hgot0] at hi; cases hi)) (by have := List.countP_le_length (p := fun i => !got (Array.replicate ops.size false) i) (l := List.range ops.size); simpa using this) ?_
  have hT0 : Interp F (fun i => i < nx) (fun k => look k (delKeys ops.toList m T)) (fun k => look k H) ρ a { w with drawn := w.drawn + 1 } := hs1.I.sub (fun _ _ _ h => h) (fun k v h => delKeys_look h) (fun _ _ h => h)
  have emptyT : ∀ {R : List Res} {D : Nat → Bool}, (∀ k, D k = false) → tE D R = [] ∧ hE D R = [] := by
    intro R D hD
    induction R with
    | nil => exact ⟨rfl, rfl⟩
    | cons r R ih => simp only [tE, hE, hD]; exact ih
  refine .inl ⟨⟨i0, hi0, hf0, hgot0 i0⟩, fun i hi => (by rw [hgot0] at hi; cases hi), ρ, ?_⟩
  unfold Part
  obtain ⟨e1, e2⟩ := emptyT (R := R) hgot0
  rw [e1, e2]
  exact hT0.sub (fun i L _ h => .inl h) (fun _ _ h => by simpa using h) (fun _ _ h => by simpa using h)⟩

end
end Go.Sym
