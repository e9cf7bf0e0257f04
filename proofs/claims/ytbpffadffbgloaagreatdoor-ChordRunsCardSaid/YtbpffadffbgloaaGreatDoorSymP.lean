/- A runner: code whose data are all there is run by tests alone. No program in sight. -/
import Derived.Test.YtbpffadffbgloaaGreatDoorSymW
set_option linter.unusedVariables false
set_option linter.unusedSimpArgs false
namespace Go.Sym
open Go.RowKit

structure RStat where
  P : Program
  tys : List (Nat × TyI)
  own : FuncId → Bool
  known : FuncId → List AV → List (Nat × Nat) → List (Nat × Chunk) → Option Inst
  cust : Custom

def memN (k : Nat) : List Nat → Bool
  | [] => false
  | j :: l => match Nat.beq k j with | true => true | false => memN k l
mutual
def idsA : AV → List Nat → List Nat
  | .ptr i _ _ _, l => i :: l
  | .sl i _, l => i :: l
  | .agg m, l => idsL m l
  | .tup m, l => idsL m l
  | .fn _ a b, l => idsL a (idsL b l)
  | _, l => l
def idsL : List AV → List Nat → List Nat
  | [], l => l
  | a :: m, l => idsA a (idsL m l)
end
def idsC : Cont → List Nat → List Nat
  | .exp l, r => idsL l r
  | .app c l, r => idsC c (idsL l r)
  | _, r => r
def idsK : Chunk → List Nat → List Nat
  | .blk _ l, r => idsL l r
  | .rb _ l, r => idsL l r
  | .row _ _ _ c, r => idsC c r
  | .ro _ _ c, r => idsC c r
def reach (H : List (Nat × Chunk)) : Nat → List Nat → List Nat → List Nat
  | 0, _, seen => seen
  | _ + 1, [], seen => seen
  | n + 1, i :: todo, seen => match memN i seen with
    | true => reach H n todo seen
    | false => match look i H with
      | some c => reach H n (idsK c todo) (i :: seen)
      | none => reach H n todo seen

def enumI : List Nat → Nat → List (Nat × Nat)
  | [], _ => []
  | a :: l, k => (a, k) :: enumI l (k + 1)
def flipS : List (Nat × Nat) → Ren
  | [] => []
  | (a, b) :: l => (b, some a) :: flipS l
def idRen : List Nat → Ren
  | [] => []
  | a :: l => (a, some a) :: idRen l
def asRo : Chunk → Chunk
  | .row _ n sz c => .ro n sz c
  | .blk t l => .rb t l
  | c => c
def hinOf (own : Bool) (H : List (Nat × Chunk)) (τ : List (Nat × Nat)) : List (Nat × Nat) → Option (List (Nat × Chunk))
  | [] => some []
  | (a, b) :: l => match look a H with
    | some c => match renK τ (match own with | true => c | false => asRo c) with
      | some d => match hinOf own H τ l with
        | some m => some ((b, d) :: m)
        | none => none
      | none => none
    | none => none
def renG (τ : List (Nat × Nat)) (m : Nat) : List (Nat × Nat) → Option (List (Nat × Nat))
  | [] => some []
  | (g, i) :: l => match look i τ with
    | some j => match Nat.blt j m, renG τ m l with
      | true, some r => some ((g, j) :: r)
      | _, _ => none
    | none => none
theorem renG_lt {τ : List (Nat × Nat)} {m : Nat} : ∀ {l r : List (Nat × Nat)}, renG τ m l = some r → ∀ g i, (g, i) ∈ r → i < m
  | [], r, h, g, i, hm => by cases h; cases hm
  | (g', i') :: l, r, h, g, i, hm => by
    simp only [renG] at h
    split at h
    · split at h
      · rename_i j _ r' hb hr
        cases h
        rcases List.mem_cons.1 hm with e | hm
        · cases e; exact Nat.le_of_ble_eq_true hb
        · exact renG_lt hr g i hm
      · cases h
    · cases h
def ownKeys : List (Nat × Chunk) → List Nat → List Nat
  | [], r => r
  | (i, c) :: l, r => match c.own with | true => i :: ownKeys l r | false => ownKeys l r
def ownOf (ids : List Nat) : List (Nat × Chunk) → List (Nat × Chunk)
  | [] => []
  | (i, c) :: l => match memN i ids && c.own with | true => (i, c) :: ownOf ids l | false => ownOf ids l
def isEnd : Exit → Bool
  | .normal | .ret => true
  | _ => false
theorem isEnd_eq {e : Exit} (h : isEnd e = true) : e = .normal ∨ e = .ret := by
  cases e <;> first | exact .inl rfl | exact .inr rfl | cases h

/-- Calls that have been run before. -/
def memo : List Inst → FuncId → List AV → List (Nat × Nat) → List (Nat × Chunk) → Option Inst
  | [], _, _, _, _ => none
  | I :: l, f, args, gl, H => match Nat.beq I.f f with
    | false => memo l f args gl H
    | true => match reach H 10000 (idsL args (gl.map (·.2))) [] with
      | seen => match enumI seen 0 with
        | τ => match hinOf false H τ τ, renL τ args with
          | some hin, some as => match cmpL (idRen (seen.map fun i => (look i τ).getD 0)) I.args as [], cmpH (idRen (seen.map fun i => (look i τ).getD 0)) hin I.hin [] with
            | some cs, some cs' => match allB cs && allB cs' && Nat.beq I.hin.length hin.length with
              | true => some { I with σ := flipS τ }
              | false => memo l f args gl H
            | _, _ => memo l f args gl H
          | _, _ => memo l f args gl H
theorem memo_ok {P : Program} : ∀ {l : List Inst} {f : FuncId} {args : List AV} {gl : List (Nat × Nat)} {H : List (Nat × Chunk)} {I : Inst}, (∀ J ∈ l, J.ok P) → memo l f args gl H = some I → I.ok P
  | [], f, args, gl, H, I, hl, h => by cases h
  | J :: l, f, args, gl, H, I, hl, h => by
    have hl' : ∀ K ∈ l, K.ok P := fun K hK => hl K (List.mem_cons_of_mem _ hK)
    simp only [memo] at h
    split at h
    · exact memo_ok hl' h
    · split at h
      · split at h
        · split at h
          · cases h; exact hl J List.mem_cons_self
          · exact memo_ok hl' h
        · exact memo_ok hl' h
      · exact memo_ok hl' h

/-- A call: what it is given, and what the run of its body gives. -/
def callI (S : RStat) (ex : Cfg → Code → St → Option (Exit × St)) (f : FuncId) (args : List AV) (gl : List (Nat × Nat)) (H : List (Nat × Chunk)) : Option Inst :=
  match S.known f args gl H with
  | some I => some I
  | none => match S.P.funcs[f]? with
    | some fn => match fn.body, callable fn with
      | some c, true => match reach H 10000 (idsL args (gl.map (·.2))) [] with
        | seen => match enumI seen 0, seen.length with
          | τ, m => match hinOf (S.own f) H τ τ, renL τ args, renG τ m gl with
            | some hin, some as, some gl' => match allKeys m hin && Nat.ble as.length fn.ntmps with
              | true => match ex ⟨fn.ntmps, S.tys, gl'⟩ c ⟨enumT nums as, hin, m⟩ with
                | some (e, s') => match isEnd e, resL ⟨fn.ntmps, S.tys, gl'⟩ s'.T s'.H fn.results.toList [] with
                  | true, some (l, _) => match reach s'.H 10000 (idsL l (ownKeys hin [])) [] with
                    | keep => match ownOf keep s'.H with
                      | hout => match endS ⟨fn.ntmps, S.tys, gl'⟩ m (idRen keep) fn.results.toList hout (tupOf l) s' with
                        | some cs => match allB cs with
                          | true => some ⟨f, gl', hin, as, hout, tupOf l, flipS τ⟩
                          | false => none
                        | none => none
                  | _, _ => none
                | none => none
              | false => none
            | _, _, _ => none
      | _, _ => none
    | none => none

/-- What an operation needs to be told. -/
def tellOp (call : FuncId → List AV → List (Nat × Nat) → List (Nat × Chunk) → Option Inst) (cfg : Cfg) (ops : List Oper) (i : Nat) (o : Oper) (s : St) (g : Option Bool) : Option (List (Nat × HintX) × List (Nat × Inst)) :=
  match g with
  | some false => some ([(i, { g := some false })], [])
  | g => match kindOf o.op with
    | 3 => match o.op with
      | .call ⟨.value x, args, _⟩ => match ev cfg s.T [] x with
        | some (.fn f l m, _) => match evL cfg s.T args.toList [] with
          | some (as, _) => match call f (l ++ (as ++ m)) cfg.globs s.H with
            | some I => some (match g with | some b => [(i, { g := some b })] | none => [], [(i, I)])
            | none => none
          | none => none
        | _ => none
      | _ => none
    | _ => some (match g with | some b => [(i, { g := some b })] | none => [], [])

def runC (cu : Custom) (call : FuncId → List AV → List (Nat × Nat) → List (Nat × Chunk) → Option Inst) (cfg : Cfg) (ops : List Oper) : Nat → List Oper → St → List (Nat × HintX) → List (Nat × Custom) → List (Nat × Inst) → Option (St × List (Nat × HintX) × List (Nat × Custom) × List (Nat × Inst))
  | _, [], s, hs, cus, cs => some (s, hs, cus, cs)
  | i, o :: rest, s, hs, cus, cs => match (match o.guard with | none => some none | some (j, want) => match guardOf ops s.T j want with | some b => some (some b) | none => none) with
    | none => none
    | some g => match tellOp call cfg ops i o s g with
      | some (h1, c1) => match stepOp cfg ⟨h1, [], c1⟩ ops i o s.T s.H s.nx [] with
        | some (s', cd) => match allB cd with
          | true => runC cu call cfg ops (i + 1) rest s' (h1 ++ hs) cus (c1 ++ cs)
          | false => none
        | none => match stepOp cfg ⟨h1, [(i, cu)], c1⟩ ops i o s.T s.H s.nx [] with
          | some (s', cd) => match allB cd with
            | true => runC cu call cfg ops (i + 1) rest s' (h1 ++ hs) ((i, cu) :: cus) (c1 ++ cs)
            | false => none
          | none => none
      | none => none

def allBB : List (List Cd) → Bool
  | [] => true
  | l :: m => match allB l with | true => allBB m | false => false
theorem allBB_all : ∀ {l : List (List Cd)}, allBB l = true → AllL l
  | [], _ => trivial
  | c :: l, h => by
    simp only [allBB] at h
    split at h
    · rename_i hb; exact ⟨allB_all hb, allBB_all h⟩
    · cases h

/-- What each operation of a region waits for. -/
def clOf : List Oper → Nat → List Nat → List Nat
  | [], _, cl => cl
  | o :: l, j, cl => match depM cl j o.after.toList 0 with
    | some s => clOf l (j + 1) (cl ++ [s])
    | none => cl
def lastFree : List Nat → Nat → Nat → Nat
  | [], _, m => m
  | c :: l, j, m => match Nat.beq (c + 1) (Nat.shiftLeft 1 j) with
    | true => lastFree l (j + 1) m
    | false => lastFree l (j + 1) (j + 1)

/-- The first operation that writes. -/
def firstMut (cs : List (Nat × Inst)) : List Oper → Nat → Nat
  | [], j => j
  | o :: l, j => match kindOf o.op with
    | 2 => j
    | 3 => match look j cs with
      | some I => match ownIds I.σ I.hin with
        | [] => firstMut cs l (j + 1)
        | _ => j
      | none => firstMut cs l (j + 1)
    | _ => firstMut cs l (j + 1)
/-- For what the later ones do not wait. -/
def flFrom : List Nat → Nat → Nat → Nat
  | [], _, _ => 0
  | c :: l, j, m => match Nat.blt j m with
    | true => flFrom l (j + 1) m
    | false => Nat.lor (Nat.xor (Nat.shiftLeft 1 j - 1) (Nat.land c (Nat.shiftLeft 1 j - 1))) (flFrom l (j + 1) m)
def drawnRun (cfg : Cfg) (t : Told) (cl : List Nat) (m fl : Nat) (ops : List Oper) (T : List (Nat × AV)) (H : List (Nat × Chunk)) (nx : Nat) : Option (St × List (List Cd)) :=
  match Nat.beq fl 0 with
  | true => runDrawn cfg t cl (lastFree cl 0 0) ops T H nx
  | false => runDrawn2 cfg t cl m fl ops T H nx

def dedT : List (Nat × AV) → Nat → List (Nat × AV)
  | [], _ => []
  | (k, v) :: l, mask => match bitAt mask k with
    | true => dedT l mask
    | false => (k, v) :: dedT l (Nat.lor mask (Nat.shiftLeft 1 k))
def idsT : List (Nat × AV) → List Nat → List Nat
  | [], r => r
  | (_, v) :: l, r => idsA v (idsT l r)
def keysBelow (m : Nat) : List (Nat × Chunk) → List Nat → List Nat
  | [], r => r
  | (i, _) :: l, r => match Nat.blt i m with | true => i :: keysBelow m l r | false => keysBelow m l r
def keepH (ids : List Nat) : List (Nat × Chunk) → List (Nat × Chunk)
  | [] => []
  | (i, c) :: l => match memN i ids with | true => (i, c) :: keepH ids l | false => keepH ids l
/-- What nobody looks at any more is left. -/
def gc (s : St) : St := match dedT s.T 0 with
  | T => ⟨T, keepH (reach s.H 10000 (idsT T (keysBelow 20 s.H [])) []) s.H, s.nx⟩

def loopC (run : St → Option (Exit × St)) : Nat → St → Option (Exit × St)
  | 0, _ => none
  | k + 1, s => match run s with
    | some (.normal, s') => loopC run k (gc s')
    | some (e, s') => some (e, s')
    | none => none

def exec (S : RStat) : Nat → Cfg → Code → St → Option (Exit × St)
  | 0, _, _, _ => none
  | n + 1, cfg, c, s => match c with
    | .skip => some (.normal, s)
    | .label _ => some (.normal, s)
    | .ret => some (.ret, s)
    | .exit id => some (.exit id, s)
    | .seq x y => match exec S n cfg x s with
      | some (.normal, s') => exec S n cfg y s'
      | some (e, s') => some (e, s')
      | none => none
    | .block id x => match exec S n cfg x s with
      | some (.exit id', s') => match Nat.beq id' id with | true => some (.normal, s') | false => some (.exit id', s')
      | some (e, s') => some (e, s')
      | none => none
    | .cond b x y => match ev cfg s.T [] b with
      | some (.lit (.bool true), []) => exec S n cfg x s
      | some (.lit (.bool false), []) => exec S n cfg y s
      | _ => none
    | .loop x => loopC (exec S n cfg x) 4000 s
    | .region _ ops drawn => match runC S.cust (callI S (exec S n)) cfg ops.toList 0 ops.toList s [] [] [] with
      | some (s', hs, cus, cs) => match drawn with
        | false => some (.normal, s')
        | true => match clOf ops.toList 0 [] with
          | cl => match firstMut cs ops.toList 0 with
          | m => match drawnRun cfg ⟨hs, cus, cs⟩ cl m (flFrom cl 0 m) ops.toList s.T s.H s.nx with
            | some (s'', css) => match allBB css with
              | true => some (.normal, s'')
              | false => none
            | none => none
      | none => none
    | _ => none

theorem dedT_look : ∀ {l : List (Nat × AV)} {mask k : Nat} {v : AV}, look k (dedT l mask) = some v → look k l = some v ∧ mask.testBit k = false
  | [], mask, k, v, h => by simp [dedT, look] at h
  | (j, u) :: l, mask, k, v, h => by
    simp only [dedT] at h
    rw [look_cons]
    split at h
    · rename_i hb
      rw [bitAt_eq] at hb
      obtain ⟨h1, h2⟩ := dedT_look h
      have : k ≠ j := by rintro rfl; rw [hb] at h2; cases h2
      rw [if_neg this]
      exact ⟨h1, h2⟩
    · rename_i hb
      rw [bitAt_eq] at hb
      rw [look_cons] at h
      split at h
      · rename_i e
        subst e
        cases h
        exact ⟨by simp, hb⟩
      · rename_i e
        obtain ⟨h1, h2⟩ := dedT_look h
        rw [if_neg e]
        refine ⟨h1, ?_⟩
        have h3 : (mask ||| (1 <<< j)).testBit k = false := h2
        rw [Nat.testBit_or, Bool.or_eq_false_iff] at h3
        exact h3.1
theorem keepH_look {ids : List Nat} : ∀ {l : List (Nat × Chunk)} {k : Nat} {c : Chunk}, look k (keepH ids l) = some c → look k l = some c
  | [], k, c, h => by simp [keepH, look] at h
  | (j, d) :: l, k, c, h => by
    have no : ∀ {l : List (Nat × Chunk)}, memN j ids = false → look j (keepH ids l) = none := by
      intro l hj
      induction l with
      | nil => rfl
      | cons x l ih =>
        obtain ⟨i, e⟩ := x
        simp only [keepH]
        split
        · rename_i hi
          rw [look_cons, if_neg (by rintro rfl; rw [hj] at hi; cases hi)]
          exact ih
        · exact ih
    simp only [keepH] at h
    rw [look_cons]
    split at h
    · rw [look_cons] at h
      split at h
      · rename_i e; rw [if_pos e]; exact h
      · rename_i e; rw [if_neg e]; exact keepH_look h
    · rename_i hj
      have : k ≠ j := by rintro rfl; rw [no hj] at h; cases h
      rw [if_neg this]
      exact keepH_look h
theorem gc_sub (F : Frm) (s : St) : Sub F s (gc s) := fun ρ a w h => ⟨ρ, ⟨h.m, h.I.sub (fun _ _ _ h => h) (fun _ _ e => (dedT_look e).1) (fun _ _ e => keepH_look e)⟩⟩

def CallOk (P : Program) (call : FuncId → List AV → List (Nat × Nat) → List (Nat × Chunk) → Option Inst) : Prop := ∀ f args gl H I, call f args gl H = some I → I.ok P

theorem tellOp_ok {P : Program} {call : FuncId → List AV → List (Nat × Nat) → List (Nat × Chunk) → Option Inst} (hcall : CallOk P call) {cfg : Cfg} {ops : List Oper} {i : Nat} {o : Oper} {s : St} {g : Option Bool} {hs : List (Nat × HintX)} {cs : List (Nat × Inst)}
    (h : tellOp call cfg ops i o s g = some (hs, cs)) : ∀ p ∈ cs, p.2.ok P := by
  unfold tellOp at h
  split at h
  · cases h; exact fun p hp => by cases hp
  · split at h
    · split at h
      · split at h
        · split at h
          · split at h
            · rename_i I hI
              cases h
              intro p hp
              rcases List.mem_cons.1 hp with rfl | hp
              · exact hcall _ _ _ _ _ hI
              · cases hp
            · cases h
          · cases h
        · cases h
      · cases h
    · cases h; exact fun p hp => by cases hp

theorem runC_told {P : Program} {cu : Custom} (hcu : cu.ok P) {call : FuncId → List AV → List (Nat × Nat) → List (Nat × Chunk) → Option Inst} (hcall : CallOk P call) {cfg : Cfg} {ops : List Oper} : ∀ {rest : List Oper} {i : Nat} {s s' : St} {hs hs' : List (Nat × HintX)} {cus cus' : List (Nat × Custom)} {cs cs' : List (Nat × Inst)},
    runC cu call cfg ops i rest s hs cus cs = some (s', hs', cus', cs') → (∀ p ∈ cus, p.2.ok P) → (∀ p ∈ cs, p.2.ok P) → (∀ p ∈ cus', p.2.ok P) ∧ ∀ p ∈ cs', p.2.ok P
  | [], i, s, s', hs, hs', cus, cus', cs, cs', h, hu, hc => by cases h; exact ⟨hu, hc⟩
  | o :: rest, i, s, s', hs, hs', cus, cus', cs, cs', h, hu, hc => by
    have more : ∀ {g : Option Bool} {h1 : List (Nat × HintX)} {c1 : List (Nat × Inst)}, tellOp call cfg ops i o s g = some (h1, c1) → ∀ p ∈ c1 ++ cs, p.2.ok P := by
      intro g h1 c1 ht p hp
      rcases List.mem_append.1 hp with hp | hp
      · exact tellOp_ok hcall ht p hp
      · exact hc p hp
    simp only [runC] at h
    split at h
    · cases h
    · split at h
      · rename_i h1 c1 ht
        split at h
        · split at h
          · exact runC_told hcu hcall h hu (more ht)
          · cases h
        · split at h
          · split at h
            · refine runC_told hcu hcall h (fun p hp => ?_) (more ht)
              rcases List.mem_cons.1 hp with rfl | hp
              · exact hcu
              · exact hu p hp
            · cases h
          · cases h
      · cases h

theorem runC_sound {F : Frm} {cu : Custom} (hcu : cu.ok F.P) {call : FuncId → List AV → List (Nat × Nat) → List (Nat × Chunk) → Option Inst} (hcall : CallOk F.P call) {cfg : Cfg} (hC : CfgOk F cfg) {ops : Array Oper} {Q : Exit → St → Prop} : ∀ {rest : List Oper} {i : Nat} {s s' : St} {hs hs' : List (Nat × HintX)} {cus cus' : List (Nat × Custom)} {cs cs' : List (Nat × Inst)},
    (∀ j, rest[j]? = ops[i + j]?) → runC cu call cfg ops.toList i rest s hs cus cs = some (s', hs', cus', cs') → Q .normal s' →
    ∀ {ρ : Env} {a : Act} {w : World}, HoldsS F s ρ a w → wpOps F.P ops (Post F Q) (List.range' i rest.length) a w
  | [], i, s, s', hs, hs', cus, cus', cs, cs', _, h, hq, ρ, a, w, hH => by
    cases h
    simp only [List.length_nil, List.range'_zero, wpOps]
    exact ⟨_, ρ, hq, hH⟩
  | o :: rest, i, s, s', hs, hs', cus, cus', cs, cs', hr, h, hq, ρ, a, w, hH => by
    simp only [runC] at h
    have ho : ops[i]? = some o := by have := hr 0; simpa using this.symm
    rw [List.length_cons, List.range'_succ, wpOps_cons]
    have hr' : ∀ j, rest[j]? = ops[i + 1 + j]? := fun j => by have := hr (j + 1); simpa [Nat.add_assoc, Nat.add_comm 1 j] using this
    split at h
    · cases h
    · split at h
      · rename_i h1 c1 ht
        split at h
        · rename_i s1 cd hst
          split at h
          · rename_i hcd
            exact (stepOp_sound hC (t := ⟨h1, [], c1⟩) ⟨(fun _ h => by cases h), tellOp_ok hcall ht⟩ hH ho hst (allB_all hcd) (fun ρ' a' w' _ hH' => runC_sound hcu hcall hC hr' h hq (s := s1) hH')).2
          · cases h
        · split at h
          · rename_i s1 cd hst
            split at h
            · rename_i hcd
              refine (stepOp_sound hC (t := ⟨h1, [(i, cu)], c1⟩) ⟨fun p hp => ?_, tellOp_ok hcall ht⟩ hH ho hst (allB_all hcd) (fun ρ' a' w' _ hH' => runC_sound hcu hcall hC hr' h hq (s := s1) hH')).2
              rcases List.mem_cons.1 hp with rfl | hp
              · exact hcu
              · cases hp
            · cases h
          · cases h
      · cases h

def ExOk (P : Program) (tys : List (Nat × TyI)) (ex : Cfg → Code → St → Option (Exit × St)) : Prop := ∀ (F : Frm) (cfg : Cfg) (c : Code) (s : St) (e : Exit) (s' : St), F.P = P → cfg.tys = tys → CfgOk F cfg → ex cfg c s = some (e, s') → LWP F c (fun e' t => e' = e ∧ t = s') s

structure RStat.ok (S : RStat) : Prop where
  tv : TValid S.P S.tys
  mix : S.P.follows .mixedOrders = true
  known : ∀ f args gl H I, S.known f args gl H = some I → I.ok S.P
  cust : S.cust.ok S.P

theorem callI_ok {S : RStat} (hS : S.ok) {ex : Cfg → Code → St → Option (Exit × St)} (hex : ExOk S.P S.tys ex) : CallOk S.P (callI S ex) := by
  intro f args gl H I h
  unfold callI at h
  split at h
  · rename_i J hJ
    cases h
    exact hS.known _ _ _ _ _ hJ
  · split at h
    · rename_i fn hf
      split at h
      · rename_i c hb hcal
        dsimp only at h
        generalize reach H 10000 (idsL args (gl.map (·.2))) [] = seen at h
        generalize enumI seen 0 = τ at h
        generalize seen.length = m at h
        split at h
        · rename_i hin as gl' h1 h2 h3
          split at h
          · rename_i hm
            simp only [Bool.and_eq_true] at hm
            split at h
            · rename_i e s' he
              split at h
              · rename_i l acc hend hres
                generalize reach s'.H 10000 (idsL l (ownKeys hin [])) [] = keep at h
                split at h
                · rename_i cs hes
                  split at h
                  · rename_i hcs
                    cases h
                    refine spec_of_body m hf hcal hb hS.tv hm.1 (Nat.le_of_ble_eq_true hm.2) (renG_lt h3) fun F hP hFm hC => ?_
                    rw [force_eq]
                    refine lwp_mono (hex F _ c _ e s' hP rfl hC he) ?_
                    rintro e' t ⟨rfl, rfl⟩
                    exact ⟨isEnd_eq hend, _, cs, hes, allB_all hcs⟩
                  · cases h
                · cases h
              · cases h
            · cases h
          · cases h
        · cases h
      · cases h
    · cases h

theorem loopC_sound {F : Frm} {x : Code} {run : St → Option (Exit × St)} (hrun : ∀ s e s', run s = some (e, s') → LWP F x (fun e' t => e' = e ∧ t = s') s) : ∀ {k : Nat} {s s' : St} {e : Exit}, loopC run k s = some (e, s') → rounds F x (fun e' t => e' = e ∧ t = s') k s
  | 0, s, s', e, h => by cases h
  | k + 1, s, s', e, h => by
    simp only [loopC] at h
    split at h
    · rename_i s1 h1
      refine lwp_mono (hrun _ _ _ h1) ?_
      rintro e' t ⟨rfl, rfl⟩
      show rounds F x _ k t
      have := loopC_sound hrun h
      cases k with
      | zero => cases h
      | succ k => exact lwp_sub (gc_sub F t) this
    · rename_i e1 s1 hne h1
      cases h
      refine lwp_mono (hrun _ _ _ h1) ?_
      rintro e' t ⟨rfl, rfl⟩
      cases e' with
      | normal => exact (hne rfl).elim
      | _ => exact ⟨rfl, rfl⟩
    · cases h

theorem exec_sound {S : RStat} (hS : S.ok) : ∀ n, ExOk S.P S.tys (exec S n)
  | 0 => fun F cfg c s e s' hP ht hC h => by cases h
  | n + 1 => fun F cfg c s e s' hP ht hC h => by
    have ih := exec_sound hS n
    cases c with
    | skip => cases h; exact lwp_skip ⟨rfl, rfl⟩
    | label l => cases h; exact lwp_label ⟨rfl, rfl⟩
    | ret => cases h; exact lwp_ret ⟨rfl, rfl⟩
    | exit id => cases h; exact lwp_exit ⟨rfl, rfl⟩
    | seq x y =>
      simp only [exec] at h
      refine lwp_seq fun K hK => ?_
      split at h
      · rename_i s1 h1
        refine lwp_mono (ih F cfg x s _ _ hP ht hC h1) ?_
        rintro e' t ⟨rfl, rfl⟩
        exact hK _ (ih F cfg y _ _ _ hP ht hC h)
      · rename_i e1 s1 hne h1
        cases h
        refine lwp_mono (ih F cfg x s _ _ hP ht hC h1) ?_
        rintro e' t ⟨rfl, rfl⟩
        cases e' with
        | normal => exact (hne rfl).elim
        | _ => exact ⟨rfl, rfl⟩
      · cases h
    | block id x =>
      simp only [exec] at h
      refine lwp_block ?_
      split at h
      · rename_i id' s1 h1
        refine lwp_mono (ih F cfg x s _ _ hP ht hC h1) ?_
        rintro e' t ⟨rfl, rfl⟩
        simp only [inBlockS]
        split at h <;> rename_i hb <;> cases h <;> rw [hb] <;> exact ⟨rfl, rfl⟩
      · rename_i e1 s1 hne h1
        cases h
        refine lwp_mono (ih F cfg x s _ _ hP ht hC h1) ?_
        rintro e' t ⟨rfl, rfl⟩
        cases e' with
        | exit id' => exact (hne _ rfl).elim
        | _ => exact ⟨rfl, rfl⟩
      · cases h
    | cond b x y =>
      simp only [exec] at h
      obtain ⟨T, H, nx⟩ := s
      split at h
      · rename_i hev
        exact lwp_cond hC hev trivial (fun _ => ih F cfg x _ _ _ hP ht hC h) (fun hb => by cases hb)
      · rename_i hev
        exact lwp_cond hC hev trivial (fun hb => by cases hb) (fun _ => ih F cfg y _ _ _ hP ht hC h)
      · cases h
    | loop x =>
      simp only [exec] at h
      exact lwp_rounds _ (loopC_sound (fun s e s' h => ih F cfg x s e s' hP ht hC h) h)
    | region id ops drawn =>
      simp only [exec] at h
      obtain ⟨T, H, nx⟩ := s
      have hcall : CallOk F.P (callI S (exec S n)) := by rw [hP]; exact callI_ok hS ih
      split at h
      · rename_i s1 hs cus cs h1
        have hcu : S.cust.ok F.P := by rw [hP]; exact hS.cust
        split at h
        · cases h
          refine ⟨fun ρ a w hh => wp_region ?_⟩
          have := runC_sound hcu hcall hC (ops := ops) (Q := fun e' t => e' = .normal ∧ t = s') (fun j => by simp) h1 ⟨rfl, rfl⟩ hh
          rw [List.range_eq_range', ← Array.length_toList]
          exact this
        · split at h
          · rename_i s2 css h2
            split at h
            · rename_i hcss
              cases h
              have ht := runC_told hcu hcall h1 (fun _ h => by cases h) calls_nil
              unfold drawnRun at h2
              split at h2
              · exact lwp_drawn hC (by rw [hP]; exact hS.mix) ⟨hs, cus, cs⟩ ht _ _ h2 (allBB_all hcss) ⟨rfl, rfl⟩
              · exact lwp_drawn2 hC (by rw [hP]; exact hS.mix) ⟨hs, cus, cs⟩ ht _ _ _ h2 (allBB_all hcss) ⟨rfl, rfl⟩
            · cases h
          · cases h
      · cases h
    | _ => cases h

end Go.Sym
