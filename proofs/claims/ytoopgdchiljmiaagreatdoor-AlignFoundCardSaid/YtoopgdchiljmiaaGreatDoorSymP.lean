/- A runner: code whose data are all there is run by tests alone. No program in sight. -/
import Derived.Test.YtoopgdchiljmiaaGreatDoorSymW
import Derived.Test.YtoopgdchiljmiaaGreatDoorSC
set_option linter.unusedVariables false
set_option linter.unusedSimpArgs false
namespace Go.Sym
open Go.RowKit

structure RStat where
  P : Program
  tys : List (Nat × TyI)
  own : FuncId → Bool
  known : FuncId → List AV → List (Nat × Nat) → List (Nat × Chunk) → Option Inst
  cust : Custom

def memN (k : Nat) : List Nat → Bool
  | [] => false
  | j :: l => match Nat.beq k j with | true => true | false => memN k l
mutual
def idsA : AV → List Nat → List Nat
  | .ptr i _ _ _, l => i :: l
  | .sl i _, l => i :: l
  | .agg m, l => idsL m l
  | .tup m, l => idsL m l
  | .fn _ a b, l => idsL a (idsL b l)
  | .yld i, l => i :: l
  | .mp i, l => i :: l
  | _, l => l
def idsL : List AV → List Nat → List Nat
  | [], l => l
  | a :: m, l => idsA a (idsL m l)
end
def idsC : Cont → List Nat → List Nat
  | .exp l, r => idsL l r
  | .app c l, r => idsC c (idsL l r)
  | _, r => r
def idsEs : List (Value × AV) → List Nat → List Nat
  | [], r => r
  | (_, v) :: l, r => idsA v (idsEs l r)
def idsT : List (Nat × AV) → List Nat → List Nat
  | [], r => r
  | (_, v) :: l, r => idsA v (idsT l r)
def idsO : ObjK → List Nat → List Nat
  | .map es, r => idsEs es r
  | .rcd T _ _ _ _ _, r => idsT T r
  | _, r => r
def idsK : Chunk → List Nat → List Nat
  | .blk _ l, r => idsL l r
  | .rb _ l, r => idsL l r
  | .row _ _ _ c, r => idsC c r
  | .ro _ _ c, r => idsC c r
  | .obj k, r => idsO k r
def reach (H : List (Nat × Chunk)) : Nat → List Nat → List Nat → List Nat
  | 0, _, seen => seen
  | _ + 1, [], seen => seen
  | n + 1, i :: todo, seen => match memN i seen with
    | true => reach H n todo seen
    | false => match look i H with
      | some c => reach H n (idsK c todo) (i :: seen)
      | none => reach H n todo seen

def enumI : List Nat → Nat → List (Nat × Nat)
  | [], _ => []
  | a :: l, k => (a, k) :: enumI l (k + 1)
def flipS : List (Nat × Nat) → Ren
  | [] => []
  | (a, b) :: l => (b, some a) :: flipS l
def idRen : List Nat → Ren
  | [] => []
  | a :: l => (a, some a) :: idRen l
def asRo : Chunk → Chunk
  | .row _ n sz c => .ro n sz c
  | .blk t l => .rb t l
  | c => c
def hinOf (own : Bool) (H : List (Nat × Chunk)) (τ : List (Nat × Nat)) : List (Nat × Nat) → Option (List (Nat × Chunk))
  | [] => some []
  | (a, b) :: l => match look a H with
    | some c => match renK τ (match own with | true => c | false => asRo c) with
      | some d => match hinOf own H τ l with
        | some m => some ((b, d) :: m)
        | none => none
      | none => none
    | none => none
def renG (τ : List (Nat × Nat)) (m : Nat) : List (Nat × Nat) → Option (List (Nat × Nat))
  | [] => some []
  | (g, i) :: l => match look i τ with
    | some j => match Nat.blt j m, renG τ m l with
      | true, some r => some ((g, j) :: r)
      | _, _ => none
    | none => none
theorem renG_lt {τ : List (Nat × Nat)} {m : Nat} : ∀ {l r : List (Nat × Nat)}, renG τ m l = some r → ∀ g i, (g, i) ∈ r → i < m
  | [], r, h, g, i, hm => by cases h; cases hm
  | (g', i') :: l, r, h, g, i, hm => by
    simp only [renG] at h
    split at h
    · split at h
      · rename_i j _ r' hb hr
        cases h
        rcases List.mem_cons.1 hm with e | hm
        · cases e; exact Nat.le_of_ble_eq_true hb
        · exact renG_lt hr g i hm
      · cases h
    · cases h
def ownKeys : List (Nat × Chunk) → List Nat → List Nat
  | [], r => r
  | (i, c) :: l, r => match c.own with | true => i :: ownKeys l r | false => ownKeys l r
def ownOf (ids : List Nat) : List (Nat × Chunk) → List (Nat × Chunk)
  | [] => []
  | (i, c) :: l => match memN i ids && c.own with | true => (i, c) :: ownOf ids l | false => ownOf ids l
def isEnd : Exit → Bool
  | .normal | .ret => true
  | _ => false
theorem isEnd_eq {e : Exit} (h : isEnd e = true) : e = .normal ∨ e = .ret := by
  cases e <;> first | exact .inl rfl | exact .inr rfl | cases h

/-- Calls that have been run before. -/
def memo : List Inst → FuncId → List AV → List (Nat × Nat) → List (Nat × Chunk) → Option Inst
  | [], _, _, _, _ => none
  | I :: l, f, args, gl, H => match Nat.beq I.f f with
    | false => memo l f args gl H
    | true => match reach H 10000 (idsL args (gl.map (·.2))) [] with
      | seen => match enumI seen 0 with
        | τ => match hinOf false H τ τ, renL τ args with
          | some hin, some as => match cmpL (idRen (seen.map fun i => (look i τ).getD 0)) I.args as [], cmpH (idRen (seen.map fun i => (look i τ).getD 0)) hin I.hin [] with
            | some cs, some cs' => match allB cs && allB cs' && Nat.beq I.hin.length hin.length with
              | true => some { I with σ := flipS τ }
              | false => memo l f args gl H
            | _, _ => memo l f args gl H
          | _, _ => memo l f args gl H
theorem memo_ok {P : Program} : ∀ {l : List Inst} {f : FuncId} {args : List AV} {gl : List (Nat × Nat)} {H : List (Nat × Chunk)} {I : Inst}, (∀ J ∈ l, J.ok P) → memo l f args gl H = some I → I.ok P
  | [], f, args, gl, H, I, hl, h => by cases h
  | J :: l, f, args, gl, H, I, hl, h => by
    have hl' : ∀ K ∈ l, K.ok P := fun K hK => hl K (List.mem_cons_of_mem _ hK)
    simp only [memo] at h
    split at h
    · exact memo_ok hl' h
    · split at h
      · split at h
        · split at h
          · cases h; exact hl J List.mem_cons_self
          · exact memo_ok hl' h
        · exact memo_ok hl' h
      · exact memo_ok hl' h

/-- A call: what it is given, and what the run of its body gives. -/
def callI (S : RStat) (ex : Nat → Bool → Cfg → Code → St → Option (Exit × St)) (f : FuncId) (args : List AV) (gl : List (Nat × Nat)) (H : List (Nat × Chunk)) : Option Inst :=
  match S.known f args gl H with
  | some I => some I
  | none => match S.P.funcs[f]? with
    | some fn => match fn.body, callable fn with
      | some c, true => match reach H 10000 (idsL args (gl.map (·.2))) [] with
        | seen => match enumI seen 0, seen.length with
          | τ, m => match hinOf (S.own f) H τ τ, renL τ args, renG τ m gl with
            | some hin, some as, some gl' => match allKeys m hin && Nat.ble as.length fn.ntmps with
              | true => match ex m true ⟨fn.ntmps, S.tys, gl'⟩ c ⟨enumT nums as, hin, m⟩ with
                | some (e, s') => match isEnd e, resL ⟨fn.ntmps, S.tys, gl'⟩ s'.T s'.H fn.results.toList [] with
                  | true, some (l, _) => match reach s'.H 10000 (idsL l (ownKeys hin [])) [] with
                    | keep => match ownOf keep s'.H with
                      | hout => match endS ⟨fn.ntmps, S.tys, gl'⟩ m (idRen keep) fn.results.toList hout (tupOf l) s' with
                        | some cs => match allB cs with
                          | true => some ⟨f, gl', hin, as, hout, tupOf l, flipS τ⟩
                          | false => none
                        | none => none
                  | _, _ => none
                | none => none
              | false => none
            | _, _, _ => none
      | _, _ => none
    | none => none

/-- What an operation needs to be told. -/
def tellOp (call : FuncId → List AV → List (Nat × Nat) → List (Nat × Chunk) → Option Inst) (cfg : Cfg) (ops : List Oper) (i : Nat) (o : Oper) (s : St) (g : Option Bool) : Option (List (Nat × HintX) × List (Nat × Inst)) :=
  match g with
  | some false => some ([(i, { g := some false })], [])
  | g => match kindOf o.op with
    | 3 => match o.op with
      | .call ⟨.value x, args, _⟩ => match ev cfg s.T [] x with
        | some (.fn f l m, _) => match evL cfg s.T args.toList [] with
          | some (as, _) => match call f (l ++ (as ++ m)) cfg.globs s.H with
            | some I => some (match g with | some b => [(i, { g := some b })] | none => [], [(i, I)])
            | none => none
          | none => none
        | _ => none
      | _ => none
    | _ => some (match g with | some b => [(i, { g := some b })] | none => [], [])

def isYield (T : List (Nat × AV)) (o : Op) : Bool := match o with
  | .call ⟨.value (.tmp x), _, _⟩ => match look x T with
    | some (.yld _) => true
    | _ => false
  | _ => false
/-- A run of operations, up to the first call of a yield. -/
def runC (cu : Custom) (call : FuncId → List AV → List (Nat × Nat) → List (Nat × Chunk) → Option Inst) (cfg : Cfg) (ops : List Oper) : Nat → List Oper → St → List (Nat × HintX) → List (Nat × Custom) → List (Nat × Inst) → Option (St × List (Nat × HintX) × List (Nat × Custom) × List (Nat × Inst) × List Oper)
  | _, [], s, hs, cus, cs => some (s, hs, cus, cs, [])
  | i, o :: rest, s, hs, cus, cs => match (match o.guard with | none => some none | some (j, want) => match guardOf ops s.T j want with | some b => some (some b) | none => none) with
    | none => none
    | some g => match isYield s.T o.op && (match g with | some b => b | none => true) with
     | true => some (s, hs, cus, cs, o :: rest)
     | false => match tellOp call cfg ops i o s g with
      | some (h1, c1) => match stepOp cfg ⟨h1, [], c1⟩ ops i o s.T s.H s.nx [] with
        | some (s', cd) => match allB cd with
          | true => runC cu call cfg ops (i + 1) rest s' (h1 ++ hs) cus (c1 ++ cs)
          | false => none
        | none => match stepOp cfg ⟨h1, [(i, cu)], c1⟩ ops i o s.T s.H s.nx [] with
          | some (s', cd) => match allB cd with
            | true => runC cu call cfg ops (i + 1) rest s' (h1 ++ hs) ((i, cu) :: cus) (c1 ++ cs)
            | false => none
          | none => none
      | none => none

def allBB : List (List Cd) → Bool
  | [] => true
  | l :: m => match allB l with | true => allBB m | false => false
theorem allBB_all : ∀ {l : List (List Cd)}, allBB l = true → AllL l
  | [], _ => trivial
  | c :: l, h => by
    simp only [allBB] at h
    split at h
    · rename_i hb; exact ⟨allB_all hb, allBB_all h⟩
    · cases h

/-- What each operation of a region waits for. -/
def clOf : List Oper → Nat → List Nat → List Nat
  | [], _, cl => cl
  | o :: l, j, cl => match depM cl j o.after.toList 0 with
    | some s => clOf l (j + 1) (cl ++ [s])
    | none => cl
def lastFree : List Nat → Nat → Nat → Nat
  | [], _, m => m
  | c :: l, j, m => match Nat.beq (c + 1) (Nat.shiftLeft 1 j) with
    | true => lastFree l (j + 1) m
    | false => lastFree l (j + 1) (j + 1)

/-- The first operation that writes. -/
def firstMut (cs : List (Nat × Inst)) : List Oper → Nat → Nat
  | [], j => j
  | o :: l, j => match kindOf o.op with
    | 2 => j
    | 3 => match look j cs with
      | some I => match ownIds I.σ I.hin with
        | [] => firstMut cs l (j + 1)
        | _ => j
      | none => firstMut cs l (j + 1)
    | _ => firstMut cs l (j + 1)
/-- Whether an operation reads a slot. -/
def readsAny (d : Tmp) : List Operand → Bool
  | [] => false
  | .tmp k :: l => match Nat.beq k d with | true => true | false => readsAny d l
  | _ :: l => readsAny d l
def readsOps (d : Tmp) : List Oper → Bool
  | [] => false
  | o :: l => match readsAny d o.op.operands.toList with | true => true | false => readsOps d l
/-- The first operation that writes a slot which one ahead of it reads. -/
def firstWar (seen : List Oper) : List Oper → Nat → Nat
  | [], j => j
  | o :: l, j => match o.dst with
    | some d => match readsOps d seen with
      | true => j
      | false => firstWar (o :: seen) l (j + 1)
    | none => firstWar (o :: seen) l (j + 1)
/-- For what the later ones do not wait. -/
def flFrom : List Nat → Nat → Nat → Nat
  | [], _, _ => 0
  | c :: l, j, m => match Nat.blt j m with
    | true => flFrom l (j + 1) m
    | false => Nat.lor (Nat.xor (Nat.shiftLeft 1 j - 1) (Nat.land c (Nat.shiftLeft 1 j - 1))) (flFrom l (j + 1) m)
def drawnRun (cfg : Cfg) (t : Told) (cl : List Nat) (m fl : Nat) (ops : List Oper) (T : List (Nat × AV)) (H : List (Nat × Chunk)) (nx : Nat) : Option (St × List (List Cd)) :=
  match Nat.beq fl 0 with
  | true => runDrawn cfg t cl (lastFree cl 0 0) ops T H nx
  | false => runDrawn2 cfg t cl m fl ops T H nx

def dedT : List (Nat × AV) → Nat → List (Nat × AV)
  | [], _ => []
  | (k, v) :: l, mask => match bitAt mask k with
    | true => dedT l mask
    | false => (k, v) :: dedT l (Nat.lor mask (Nat.shiftLeft 1 k))
def keysBelow (m : Nat) : List (Nat × Chunk) → List Nat → List Nat
  | [], r => r
  | (i, _) :: l, r => match Nat.blt i m with | true => i :: keysBelow m l r | false => keysBelow m l r
def keepH (ids : List Nat) : List (Nat × Chunk) → List (Nat × Chunk)
  | [] => []
  | (i, c) :: l => match memN i ids with | true => (i, c) :: keepH ids l | false => keepH ids l
/-- What nobody looks at any more is left. -/
def gc (m : Nat) (s : St) : St := match dedT s.T 0 with
  | T => ⟨T, keepH (reach s.H 10000 (idsT T (keysBelow m s.H [])) []) s.H, s.nx⟩

def loopC (m : Nat) (run : St → Option (Exit × St)) : Nat → St → Option (Exit × St)
  | 0, _ => none
  | k + 1, s => match run s with
    | some (.normal, s') => loopC m run k (gc m s')
    | some (e, s') => some (e, s')
    | none => none

/-- A round of a range over a function, as its yield is called. -/
def yieldC (ex : Nat → Bool → Cfg → Code → St → Option (Exit × St)) (cfg : Cfg) (o : Oper) (s : St) : Option St :=
  match yieldA cfg o s with
  | some (y, cs) => match allB cs with
    | true => match ex s.nx false ⟨y.nt, cfg.tys, cfg.globs⟩ y.assign ⟨y.Tr, s.H, s.nx⟩ with
      | some (.normal, s1) => match look y.k s1.H with
        | some (.obj (.rcd T nt ps as bd .ready)) => match ex s.nx false ⟨y.nt, cfg.tys, cfg.globs⟩ y.body ⟨s1.T, setA y.k (.obj (.rcd T nt ps as bd .busy)) s1.H, s1.nx⟩ with
          | some (e, s2) => match look y.k s2.H with
            | some (.obj (.rcd T nt ps as bd .busy)) => match (match e with | .normal => some (true, RecSt.ready) | .ret => some (false, .ret) | .exit id => some (false, .exit id) | _ => none) with
              | some (b, st) => match putT cfg.nt o.dst (.lit (.bool b)) s.T with
                | some T' => forceK (setA y.k (.obj (.rcd T nt ps as bd st)) s2.H) [] fun H' => some ⟨T', H', s2.nx⟩
                | none => none
              | none => none
            | _ => none
          | none => none
        | _ => none
      | _ => none
    | false => none
  | none => none

/-- The rest of a region, with one call of a yield at most. -/
def contC (ex : Nat → Bool → Cfg → Code → St → Option (Exit × St)) (cu : Custom) (call : FuncId → List AV → List (Nat × Nat) → List (Nat × Chunk) → Option Inst) (cfg : Cfg) (ops : Array Oper) (i : Nat) (rest : List Oper) (s : St) : Option St :=
  match runC cu call cfg ops.toList i rest s [] [] [] with
  | some (s', _, _, _, r) => match r with
    | [] => some s'
    | o :: r' => match yieldC ex cfg o s' with
      | some s2 => match runC cu call cfg ops.toList (ops.size - r'.length) r' s2 [] [] [] with
        | some (s3, _, _, _, r2) => match r2 with
          | [] => some s3
          | _ :: _ => none
        | none => none
      | none => none
  | none => none

def exec (S : RStat) : Nat → Nat → Bool → Cfg → Code → St → Option (Exit × St)
  | 0, _, _, _, _, _ => none
  | n + 1, m, top, cfg, c, s => match c with
    | .skip => some (.normal, s)
    | .label _ => some (.normal, s)
    | .ret => some (.ret, s)
    | .exit id => some (.exit id, s)
    | .seq x y => match exec S n m top cfg x s with
      | some (.normal, s') => exec S n m top cfg y s'
      | some (e, s') => some (e, s')
      | none => none
    | .scope x => match exec S n m top cfg x s with
      | some (.goto _, _) => none
      | r => r
    | .block id x => match exec S n m top cfg x s with
      | some (.exit id', s') => match Nat.beq id' id with | true => some (.normal, s') | false => some (.exit id', s')
      | some (e, s') => some (e, s')
      | none => none
    | .cond b x y => match ev cfg s.T [] b with
      | some (.lit (.bool true), []) => exec S n m top cfg x s
      | some (.lit (.bool false), []) => exec S n m top cfg y s
      | _ => none
    | .loop x => loopC m (exec S n m top cfg x) 4000 s
    | .region _ ops drawn => match drawn with
      | false => match contC (exec S n) S.cust (callI S (exec S n)) cfg ops 0 ops.toList s with
        | some s' => some (.normal, s')
        | none => none
      | true => match runC S.cust (callI S (exec S n)) cfg ops.toList 0 ops.toList s [] [] [] with
        | some (_, hs, cus, cs, r) => match r with
          | [] => match clOf ops.toList 0 [] with
            | cl => match Nat.min (firstMut cs ops.toList 0) (firstWar [] ops.toList 0) with
            | m => match drawnRun cfg ⟨hs, cus, cs⟩ cl m (flFrom cl 0 m) ops.toList s.T s.H s.nx with
              | some (s'', css) => match allBB css with
                | true => some (.normal, s'')
                | false => none
              | none => none
          | _ :: _ => match clOf ops.toList 0 [] with
            | cl => match lastFree cl 0 0 with
            | m => match preDrawn cfg ⟨hs, cus, cs⟩ cl m ops.toList s.T s.H s.nx with
              | some (s1, css) => match allBB css with
                | true => match contC (exec S n) S.cust (callI S (exec S n)) cfg ops m (ops.toList.drop m) s1 with
                  | some s' => some (.normal, s')
                  | none => none
                | false => none
              | none => none
        | none => none
    | .rangeFunc g ps assign body => match top, ev cfg s.T [] g with
      | true, some (.fn f l cap, []) => match S.P.funcs[f]? with
        | some fn => match fn.body, nxt s.nx, callable fn && Nat.beq fn.results.toList.length 0 && Nat.ble (l ++ (.yld s.nx :: cap)).length fn.ntmps with
          | some c, some nx', true => match exec S n nx' true ⟨fn.ntmps, cfg.tys, cfg.globs⟩ c ⟨enumT nums (l ++ (.yld s.nx :: cap)), (s.nx, .obj (.rcd s.T cfg.nt ps assign body .ready)) :: s.H, nx'⟩ with
            | some (e, s2) => match isEnd e, look s.nx s2.H with
              | true, some (.obj (.rcd _ _ _ _ _ st)) => match st with
                | .ready => some (.normal, ⟨s.T, delA s.nx s2.H, s2.nx⟩)
                | .ret => some (.ret, ⟨s.T, delA s.nx s2.H, s2.nx⟩)
                | .exit id => some (.exit id, ⟨s.T, delA s.nx s2.H, s2.nx⟩)
                | .busy => none
              | _, _ => none
            | none => none
          | _, _, _ => none
        | none => none
      | _, _ => none
    | _ => none

theorem dedT_look : ∀ {l : List (Nat × AV)} {mask k : Nat} {v : AV}, look k (dedT l mask) = some v → look k l = some v ∧ mask.testBit k = false
  | [], mask, k, v, h => by simp [dedT, look] at h
  | (j, u) :: l, mask, k, v, h => by
    simp only [dedT] at h
    rw [look_cons]
    split at h
    · rename_i hb
      rw [bitAt_eq] at hb
      obtain ⟨h1, h2⟩ := dedT_look h
      have : k ≠ j := by rintro rfl; rw [hb] at h2; cases h2
      rw [if_neg this]
      exact ⟨h1, h2⟩
    · rename_i hb
      rw [bitAt_eq] at hb
      rw [look_cons] at h
      split at h
      · rename_i e
        subst e
        cases h
        exact ⟨by simp, hb⟩
      · rename_i e
        obtain ⟨h1, h2⟩ := dedT_look h
        rw [if_neg e]
        refine ⟨h1, ?_⟩
        have h3 : (mask ||| (1 <<< j)).testBit k = false := h2
        rw [Nat.testBit_or, Bool.or_eq_false_iff] at h3
        exact h3.1
theorem keepH_look {ids : List Nat} : ∀ {l : List (Nat × Chunk)} {k : Nat} {c : Chunk}, look k (keepH ids l) = some c → look k l = some c
  | [], k, c, h => by simp [keepH, look] at h
  | (j, d) :: l, k, c, h => by
    have no : ∀ {l : List (Nat × Chunk)}, memN j ids = false → look j (keepH ids l) = none := by
      intro l hj
      induction l with
      | nil => rfl
      | cons x l ih =>
        obtain ⟨i, e⟩ := x
        simp only [keepH]
        split
        · rename_i hi
          rw [look_cons, if_neg (by rintro rfl; rw [hj] at hi; cases hi)]
          exact ih
        · exact ih
    simp only [keepH] at h
    rw [look_cons]
    split at h
    · rw [look_cons] at h
      split at h
      · rename_i e; rw [if_pos e]; exact h
      · rename_i e; rw [if_neg e]; exact keepH_look h
    · rename_i hj
      have : k ≠ j := by rintro rfl; rw [no hj] at h; cases h
      rw [if_neg this]
      exact keepH_look h
theorem gc_sub (F : Frm) (m : Nat) (s : St) : Sub F s (gc m s) := fun ρ a w h => ⟨ρ, ⟨h.m, h.I.sub (fun _ _ _ h => h) (fun _ _ e => (dedT_look e).1) (fun _ _ e => keepH_look e)⟩⟩

def CallOk (P : Program) (call : FuncId → List AV → List (Nat × Nat) → List (Nat × Chunk) → Option Inst) : Prop := ∀ f args gl H I, call f args gl H = some I → I.ok P

theorem tellOp_ok {P : Program} {call : FuncId → List AV → List (Nat × Nat) → List (Nat × Chunk) → Option Inst} (hcall : CallOk P call) {cfg : Cfg} {ops : List Oper} {i : Nat} {o : Oper} {s : St} {g : Option Bool} {hs : List (Nat × HintX)} {cs : List (Nat × Inst)}
    (h : tellOp call cfg ops i o s g = some (hs, cs)) : ∀ p ∈ cs, p.2.ok P := by
  unfold tellOp at h
  split at h
  · cases h; exact fun p hp => by cases hp
  · split at h
    · split at h
      · split at h
        · split at h
          · split at h
            · rename_i I hI
              cases h
              intro p hp
              rcases List.mem_cons.1 hp with rfl | hp
              · exact hcall _ _ _ _ _ hI
              · cases hp
            · cases h
          · cases h
        · cases h
      · cases h
    · cases h; exact fun p hp => by cases hp

theorem runC_told {P : Program} {cu : Custom} (hcu : cu.ok P) {call : FuncId → List AV → List (Nat × Nat) → List (Nat × Chunk) → Option Inst} (hcall : CallOk P call) {cfg : Cfg} {ops : List Oper} : ∀ {rest : List Oper} {i : Nat} {s s' : St} {hs hs' : List (Nat × HintX)} {cus cus' : List (Nat × Custom)} {cs cs' : List (Nat × Inst)} {r : List Oper},
    runC cu call cfg ops i rest s hs cus cs = some (s', hs', cus', cs', r) → (∀ p ∈ cus, p.2.ok P) → (∀ p ∈ cs, p.2.ok P) → (∀ p ∈ cus', p.2.ok P) ∧ ∀ p ∈ cs', p.2.ok P
  | [], i, s, s', hs, hs', cus, cus', cs, cs', r, h, hu, hc => by cases h; exact ⟨hu, hc⟩
  | o :: rest, i, s, s', hs, hs', cus, cus', cs, cs', r, h, hu, hc => by
    have more : ∀ {g : Option Bool} {h1 : List (Nat × HintX)} {c1 : List (Nat × Inst)}, tellOp call cfg ops i o s g = some (h1, c1) → ∀ p ∈ c1 ++ cs, p.2.ok P := by
      intro g h1 c1 ht p hp
      rcases List.mem_append.1 hp with hp | hp
      · exact tellOp_ok hcall ht p hp
      · exact hc p hp
    simp only [runC] at h
    split at h
    · cases h
    split at h
    · cases h; exact ⟨hu, hc⟩
    · split at h
      · rename_i h1 c1 ht
        split at h
        · split at h
          · exact runC_told hcu hcall h hu (more ht)
          · cases h
        · split at h
          · split at h
            · refine runC_told hcu hcall h (fun p hp => ?_) (more ht)
              rcases List.mem_cons.1 hp with rfl | hp
              · exact hcu
              · exact hu p hp
            · cases h
          · cases h
      · cases h

theorem runC_then {F : Frm} {cu : Custom} (hcu : cu.ok F.P) {call : FuncId → List AV → List (Nat × Nat) → List (Nat × Chunk) → Option Inst} (hcall : CallOk F.P call) {cfg : Cfg} (hC : CfgOk F cfg) {ops : Array Oper} {idx : List Nat} {Q : Exit → St → Prop} : ∀ {rest : List Oper} {i : Nat} {s s' : St} {hs hs' : List (Nat × HintX)} {cus cus' : List (Nat × Custom)} {cs cs' : List (Nat × Inst)} {r : List Oper},
    (∀ j, rest[j]? = ops[i + j]?) → runC cu call cfg ops.toList i rest s hs cus cs = some (s', hs', cus', cs', r) →
    ∃ n, rest.length = n + r.length ∧ (∀ j, r[j]? = ops[i + n + j]?) ∧ (∀ o r', r = o :: r' → ∀ j want, o.guard = some (j, want) → guardOf ops.toList s'.T j want = some true) ∧
      (LOPS F ops idx Q s' → ∀ {ρ : Env} {a : Act} {w : World}, HoldsS F s ρ a w → wpOpsIn (fen F.rd) 2 F.P ops (Post F Q) (List.range' i n ++ idx) a w)
  | [], i, s, s', hs, hs', cus, cus', cs, cs', r, hr, h => by
    cases h
    exact ⟨0, rfl, hr, fun o r' e => (by cases e), fun hq ρ a w hH => hq.out ρ a w hH⟩
  | o :: rest, i, s, s', hs, hs', cus, cus', cs, cs', r, hr, h => by
    simp only [runC] at h
    have ho : ops[i]? = some o := by have := hr 0; simpa using this.symm
    have hr' : ∀ j, rest[j]? = ops[i + 1 + j]? := fun j => by have := hr (j + 1); simpa [Nat.add_assoc, Nat.add_comm 1 j] using this
    split at h
    · cases h
    rename_i g hg
    split at h
    · rename_i hy
      cases h
      refine ⟨0, (Nat.zero_add _).symm, hr, fun o' r' e j want hgd => ?_, fun hq ρ a w hH => hq.out ρ a w hH⟩
      cases e
      simp only [Bool.and_eq_true] at hy
      rw [hgd] at hg
      simp only at hg
      split at hg
      · rename_i b hb
        cases hg
        have h2 := hy.2
        simp only at h2
        rw [hb, h2]
      · cases hg
    · have more : ∀ {s1 : St} {n : Nat}, (∀ {K : Act → World → Prop}, (∀ ρ' a' w', HoldsS F s1 ρ' a' w' → K a' w') → ∀ {ρ a w}, HoldsS F s ρ a w → wpOpIn (fen F.rd) 2 F.P ops (Post F Q) i K a w) →
          rest.length = n + r.length → (∀ j, r[j]? = ops[i + 1 + n + j]?) → (∀ o r', r = o :: r' → ∀ j want, o.guard = some (j, want) → guardOf ops.toList s'.T j want = some true) →
          (LOPS F ops idx Q s' → ∀ {ρ : Env} {a : Act} {w : World}, HoldsS F s1 ρ a w → wpOpsIn (fen F.rd) 2 F.P ops (Post F Q) (List.range' (i + 1) n ++ idx) a w) →
          ∃ n, (o :: rest).length = n + r.length ∧ (∀ j, r[j]? = ops[i + n + j]?) ∧ (∀ o r', r = o :: r' → ∀ j want, o.guard = some (j, want) → guardOf ops.toList s'.T j want = some true) ∧
            (LOPS F ops idx Q s' → ∀ {ρ : Env} {a : Act} {w : World}, HoldsS F s ρ a w → wpOpsIn (fen F.rd) 2 F.P ops (Post F Q) (List.range' i n ++ idx) a w) := by
        intro s1 n hstep e1 e2 e3 e4
        refine ⟨n + 1, by simp only [List.length_cons]; omega, fun j => by rw [e2]; congr 1; omega, e3, fun hq ρ a w hH => ?_⟩
        rw [List.range'_succ, List.cons_append, wpOpsIn_cons]
        exact hstep (fun ρ' a' w' hH' => e4 hq hH') hH
      split at h
      · rename_i h1 c1 ht
        split at h
        · rename_i s1 cd hst
          split at h
          · rename_i hcd
            obtain ⟨n, e1, e2, e3, e4⟩ := runC_then hcu hcall hC (Q := Q) hr' h
            exact more (s1 := s1) (fun hK _ _ _ hH => (stepOp_sound hC (t := ⟨h1, [], c1⟩) ⟨(fun _ h => by cases h), tellOp_ok hcall ht⟩ hH ho hst (allB_all hcd) (fun ρ' a' w' _ hH' => hK ρ' a' w' hH')).2) e1 e2 e3 e4
          · cases h
        · split at h
          · rename_i s1 cd hst
            split at h
            · rename_i hcd
              obtain ⟨n, e1, e2, e3, e4⟩ := runC_then hcu hcall hC (Q := Q) hr' h
              refine more (s1 := s1) (fun hK _ _ _ hH => (stepOp_sound hC (t := ⟨h1, [(i, cu)], c1⟩) ⟨fun p hp => ?_, tellOp_ok hcall ht⟩ hH ho hst (allB_all hcd) (fun ρ' a' w' _ hH' => hK ρ' a' w' hH')).2) e1 e2 e3 e4
              rcases List.mem_cons.1 hp with rfl | hp
              · exact hcu
              · cases hp
            · cases h
          · cases h
      · cases h

def ExOk (P : Program) (tys : List (Nat × TyI)) (ex : Nat → Bool → Cfg → Code → St → Option (Exit × St)) : Prop := ∀ (F : Frm) (m : Nat) (top : Bool) (cfg : Cfg) (c : Code) (s : St) (e : Exit) (s' : St), F.P = P → cfg.tys = tys → CfgOk F cfg → (top = true → F.rd = none) → ex m top cfg c s = some (e, s') → LWP F c (fun e' t => e' = e ∧ t = s') s

structure RStat.ok (S : RStat) : Prop where
  tv : TValid S.P S.tys
  mix : S.P.follows .mixedOrders = true
  known : ∀ f args gl H I, S.known f args gl H = some I → I.ok S.P
  cust : S.cust.ok S.P

theorem callI_ok {S : RStat} (hS : S.ok) {ex : Nat → Bool → Cfg → Code → St → Option (Exit × St)} (hex : ExOk S.P S.tys ex) : CallOk S.P (callI S ex) := by
  intro f args gl H I h
  unfold callI at h
  split at h
  · rename_i J hJ
    cases h
    exact hS.known _ _ _ _ _ hJ
  · split at h
    · rename_i fn hf
      split at h
      · rename_i c hb hcal
        dsimp only at h
        generalize reach H 10000 (idsL args (gl.map (·.2))) [] = seen at h
        generalize enumI seen 0 = τ at h
        generalize seen.length = m at h
        split at h
        · rename_i hin as gl' h1 h2 h3
          split at h
          · rename_i hm
            simp only [Bool.and_eq_true] at hm
            split at h
            · rename_i e s' he
              split at h
              · rename_i l acc hend hres
                generalize reach s'.H 10000 (idsL l (ownKeys hin [])) [] = keep at h
                split at h
                · rename_i cs hes
                  split at h
                  · rename_i hcs
                    cases h
                    refine spec_of_body m hf hcal hb hS.tv hm.1 (Nat.le_of_ble_eq_true hm.2) (renG_lt h3) fun F hP hFm hC hrd => ?_
                    rw [force_eq]
                    refine lwp_mono (hex F _ _ _ c _ e s' hP rfl hC (fun _ => hrd) he) ?_
                    rintro e' t ⟨rfl, rfl⟩
                    exact ⟨isEnd_eq hend, _, cs, hes, allB_all hcs⟩
                  · cases h
                · cases h
              · cases h
            · cases h
          · cases h
        · cases h
      · cases h
    · cases h

theorem loopC_sound {F : Frm} {m : Nat} {x : Code} {run : St → Option (Exit × St)} (hrun : ∀ s e s', run s = some (e, s') → LWP F x (fun e' t => e' = e ∧ t = s') s) : ∀ {k : Nat} {s s' : St} {e : Exit}, loopC m run k s = some (e, s') → rounds F x (fun e' t => e' = e ∧ t = s') k s
  | 0, s, s', e, h => by cases h
  | k + 1, s, s', e, h => by
    simp only [loopC] at h
    split at h
    · rename_i s1 h1
      refine lwp_mono (hrun _ _ _ h1) ?_
      rintro e' t ⟨rfl, rfl⟩
      show rounds F x _ k t
      have := loopC_sound hrun h
      cases k with
      | zero => cases h
      | succ k => exact lwp_sub (gc_sub F m t) this
    · rename_i e1 s1 hne h1
      cases h
      refine lwp_mono (hrun _ _ _ h1) ?_
      rintro e' t ⟨rfl, rfl⟩
      cases e' with
      | normal => exact (hne rfl).elim
      | _ => exact ⟨rfl, rfl⟩
    · cases h

theorem yieldC_sound {P : Program} {tys : List (Nat × TyI)} {ex : Nat → Bool → Cfg → Code → St → Option (Exit × St)} (hex : ExOk P tys ex) {F : Frm} (hP : F.P = P) {cfg : Cfg} (ht : cfg.tys = tys) (hC : CfgOk F cfg) {ops : Array Oper} {j : Nat} {idx : List Nat} {Q : Exit → St → Prop} {o : Oper} (ho : ops[j]? = some o) {s s2 : St}
    (hg : ∀ i want, o.guard = some (i, want) → guardOf ops.toList s.T i want = some true) (h : yieldC ex cfg o s = some s2) (hq : LOPS F ops idx Q s2) : LOPS F ops (j :: idx) Q s := by
  unfold yieldC at h
  split at h
  case h_2 => cases h
  rename_i y cs hy
  split at h
  case h_2 => cases h
  rename_i hcs
  split at h
  case h_2 => cases h
  rename_i s1 h1
  split at h
  case h_2 => cases h
  rename_i T nt ps as bd hk1
  split at h
  case h_2 => cases h
  rename_i e s3 h2
  split at h
  case h_2 => cases h
  rename_i T3 nt3 ps3 as3 bd3 hk3
  split at h
  case h_2 => cases h
  rename_i b st hbs
  split at h
  case h_2 => cases h
  rename_i T' hT'
  rw [force_eq] at h
  cases h
  refine lops_yield hC ho hg hy (allB_all hcs) fun F' hP' hm' hC' => ?_
  refine lwp_mono (hex F' _ _ ⟨y.nt, cfg.tys, cfg.globs⟩ _ _ _ _ (hP'.trans hP) ht hC' (fun h => by cases h) h1) ?_
  rintro e' t ⟨rfl, rfl⟩
  refine ⟨rfl, ?_⟩
  rw [hk1]
  refine lwp_mono (hex F' _ _ ⟨y.nt, cfg.tys, cfg.globs⟩ _ _ _ _ (hP'.trans hP) ht hC' (fun h => by cases h) h2) ?_
  rintro e' t2 ⟨rfl, rfl⟩
  unfold RoundEnd
  rw [hk3]
  cases e' with
  | normal => cases hbs; exact ⟨T', hT', hq⟩
  | ret => cases hbs; exact ⟨T', hT', hq⟩
  | exit id => cases hbs; exact ⟨T', hT', hq⟩
  | _ => cases hbs

theorem contC_sound {P : Program} {tys : List (Nat × TyI)} {ex : Nat → Bool → Cfg → Code → St → Option (Exit × St)} (hex : ExOk P tys ex) {F : Frm} (hP : F.P = P) {cfg : Cfg} (ht : cfg.tys = tys) (hC : CfgOk F cfg) {cu : Custom} (hcu : cu.ok F.P) {call : FuncId → List AV → List (Nat × Nat) → List (Nat × Chunk) → Option Inst} (hcall : CallOk F.P call)
    {ops : Array Oper} {Q : Exit → St → Prop} {i : Nat} {rest : List Oper} {s s' : St} (hr : ∀ j, rest[j]? = ops[i + j]?) (hi : i + rest.length = ops.size) (h : contC ex cu call cfg ops i rest s = some s') (hq : Q .normal s') : LOPS F ops (List.range' i rest.length) Q s := by
  unfold contC at h
  split at h
  case h_2 => cases h
  rename_i s1 _ _ _ r h1
  split at h
  · cases h
    obtain ⟨k, e1, _, _, e4⟩ := runC_then hcu hcall hC (ops := ops) (idx := []) (Q := Q) hr h1
    refine ⟨fun ρ a w hh => ?_⟩
    rw [e1]
    simpa using e4 (lops_nil hq) hh
  · rename_i o r'
    split at h
    case h_2 => cases h
    rename_i s2 h2
    split at h
    case h_2 => cases h
    rename_i s3 _ _ _ r2 h3
    split at h
    case h_2 => cases h
    cases h
    obtain ⟨k, e1, e2, e3, _⟩ := runC_then hcu hcall hC (ops := ops) (idx := []) (Q := Q) hr h1
    obtain ⟨k', e1', _, _, e4⟩ := runC_then hcu hcall hC (ops := ops) (idx := (i + k) :: List.range' (i + k + 1) r'.length) (Q := Q) hr h1
    simp only [List.length_cons] at e1 e1'
    have hk' : k' = k := by omega
    subst hk'
    have hsz : ops.size - r'.length = i + k' + 1 := by omega
    rw [hsz] at h3
    have ho : ops[i + k']? = some o := by have := e2 0; simpa using this.symm
    have hrest : ∀ j, r'[j]? = ops[i + k' + 1 + j]? := fun j => by have := e2 (j + 1); rw [List.getElem?_cons_succ] at this; rw [this]; congr 1; omega
    obtain ⟨n2, f1, _, _, f4⟩ := runC_then hcu hcall hC (ops := ops) (idx := []) (Q := Q) hrest h3
    have hn2 : n2 = r'.length := by simpa using f1.symm
    subst hn2
    refine ⟨fun ρ a w hh => ?_⟩
    rw [e1, ← List.range'_append_1, List.range'_succ]
    refine e4 (yieldC_sound hex hP ht hC ho (e3 o r' rfl) h2 ⟨fun ρ a w hh => ?_⟩) hh
    have := f4 (lops_nil hq) hh
    simpa using this

theorem exec_sound {S : RStat} (hS : S.ok) : ∀ n, ExOk S.P S.tys (exec S n)
  | 0 => fun F m top cfg c s e s' hP ht hC htop h => by cases h
  | n + 1 => fun F m top cfg c s e s' hP ht hC htop h => by
    have ih := exec_sound hS n
    cases c with
    | skip => cases h; exact lwp_skip ⟨rfl, rfl⟩
    | label l => cases h; exact lwp_label ⟨rfl, rfl⟩
    | ret => cases h; exact lwp_ret ⟨rfl, rfl⟩
    | exit id => cases h; exact lwp_exit ⟨rfl, rfl⟩
    | seq x y =>
      simp only [exec] at h
      refine lwp_seq fun K hK => ?_
      split at h
      · rename_i s1 h1
        refine lwp_mono (ih F m top cfg x s _ _ hP ht hC htop h1) ?_
        rintro e' t ⟨rfl, rfl⟩
        exact hK _ (ih F m top cfg y _ _ _ hP ht hC htop h)
      · rename_i e1 s1 hne h1
        cases h
        refine lwp_mono (ih F m top cfg x s _ _ hP ht hC htop h1) ?_
        rintro e' t ⟨rfl, rfl⟩
        cases e' with
        | normal => exact (hne rfl).elim
        | _ => exact ⟨rfl, rfl⟩
      · cases h
    | scope x =>
      simp only [exec] at h
      refine lwp_scope ?_
      split at h
      · cases h
      · rename_i hng
        refine lwp_mono (ih F m top cfg x s _ _ hP ht hC htop h) ?_
        rintro e' t ⟨rfl, rfl⟩
        cases e' with
        | goto l => exact (hng _ _ h).elim
        | _ => exact ⟨rfl, rfl⟩
    | block id x =>
      simp only [exec] at h
      refine lwp_block ?_
      split at h
      · rename_i id' s1 h1
        refine lwp_mono (ih F m top cfg x s _ _ hP ht hC htop h1) ?_
        rintro e' t ⟨rfl, rfl⟩
        simp only [inBlockS]
        split at h <;> rename_i hb <;> cases h <;> rw [hb] <;> exact ⟨rfl, rfl⟩
      · rename_i e1 s1 hne h1
        cases h
        refine lwp_mono (ih F m top cfg x s _ _ hP ht hC htop h1) ?_
        rintro e' t ⟨rfl, rfl⟩
        cases e' with
        | exit id' => exact (hne _ rfl).elim
        | _ => exact ⟨rfl, rfl⟩
      · cases h
    | cond b x y =>
      simp only [exec] at h
      obtain ⟨T, H, nx⟩ := s
      split at h
      · rename_i hev
        exact lwp_cond hC hev trivial (fun _ => ih F m top cfg x _ _ _ hP ht hC htop h) (fun hb => by cases hb)
      · rename_i hev
        exact lwp_cond hC hev trivial (fun hb => by cases hb) (fun _ => ih F m top cfg y _ _ _ hP ht hC htop h)
      · cases h
    | loop x =>
      simp only [exec] at h
      exact lwp_rounds _ (loopC_sound (fun s e s' h => ih F m top cfg x s e s' hP ht hC htop h) h)
    | region id ops drawn =>
      simp only [exec] at h
      obtain ⟨T, H, nx⟩ := s
      have hcall : CallOk F.P (callI S (exec S n)) := by rw [hP]; exact callI_ok hS ih
      have hcu : S.cust.ok F.P := by rw [hP]; exact hS.cust
      split at h
      · split at h
        · rename_i s1 h1
          cases h
          refine lops_region (contC_sound ih hP ht hC hcu hcall (fun j => by simp) (by simp) h1 ⟨rfl, rfl⟩)
        · cases h
      · split at h
        case h_2 => cases h
        rename_i _ hs cus cs r h1
        have htold := runC_told hcu hcall h1 (fun _ h => by cases h) calls_nil
        split at h
        · dsimp only at h
          split at h
          · rename_i s2 css h2
            split at h
            · rename_i hcss
              cases h
              unfold drawnRun at h2
              split at h2
              · exact lwp_drawn hC (by rw [hP]; exact hS.mix) ⟨hs, cus, cs⟩ htold _ _ h2 (allBB_all hcss) ⟨rfl, rfl⟩
              · exact lwp_drawn2 hC (by rw [hP]; exact hS.mix) ⟨hs, cus, cs⟩ htold _ _ _ h2 (allBB_all hcss) ⟨rfl, rfl⟩
            · cases h
          · cases h
        · dsimp only at h
          generalize clOf ops.toList 0 [] = cl at h
          generalize lastFree cl 0 0 = m1 at h
          split at h
          · rename_i s1 css h2
            split at h
            · rename_i hcss
              split at h
              · rename_i s2 h3
                cases h
                refine lwp_drawn_pre hC (by rw [hP]; exact hS.mix) ⟨hs, cus, cs⟩ htold cl m1 h2 (allBB_all hcss) ?_
                have hm1 : m1 ≤ ops.size := preDrawn_le h2
                have e : (ops.toList.drop m1).length = ops.size - m1 := by simp
                rw [← e]
                refine contC_sound ih hP ht hC hcu hcall (fun j => by simp) (by rw [e]; omega) h3 ⟨rfl, rfl⟩
              · cases h
            · cases h
          · cases h
    | rangeFunc g ps assign body =>
      simp only [exec] at h
      obtain ⟨T, H, nx⟩ := s
      split at h
      case h_2 => cases h
      rename_i f l cap hev
      split at h
      case h_2 => cases h
      rename_i fn hf
      split at h
      case h_2 => cases h
      rename_i c nx' hb hnx hok
      simp only [Bool.and_eq_true] at hok
      obtain ⟨⟨hcal, hres⟩, hlen⟩ := hok
      have hres : fn.results = #[] := by
        apply Array.toList_inj.1
        exact List.eq_nil_of_length_eq_zero (Nat.eq_of_beq_eq_true hres)
      split at h
      case h_2 => cases h
      rename_i e2 s2 hex
      split at h
      case h_2 => cases h
      rename_i T3 nt3 ps3 as3 bd3 st hend hk
      refine lwp_range hC (htop rfl) hev trivial (by rw [hP]; exact hf) hcal hb hres hnx hlen fun F' hP' hm' hC' hrd' => ?_
      rw [force_eq]
      refine lwp_mono (ih F' _ true ⟨fn.ntmps, cfg.tys, cfg.globs⟩ _ _ _ _ (hP'.trans hP) ht hC' (fun _ => hrd') hex) ?_
      rintro e' t ⟨rfl, rfl⟩
      refine ⟨isEnd_eq hend, ?_⟩
      rw [hk]
      cases st with
      | ready => cases h; exact ⟨rfl, rfl⟩
      | ret => cases h; exact ⟨rfl, rfl⟩
      | exit id => cases h; exact ⟨rfl, rfl⟩
      | busy => cases h
    | _ => cases h

/-- A body is run in parts: so many statements, and what is behind them. -/
def dropSeq : Nat → Code → Code
  | k + 1, .seq _ y => dropSeq k y
  | _, c => c
def execN (S : RStat) (n m : Nat) (cfg : Cfg) : Nat → Code → St → Option St
  | 0, _, s => some s
  | k + 1, c, s => match c with
    | .seq x y => match exec S n m true cfg x s with
      | some (.normal, s') => execN S n m cfg k y (gc m s')
      | _ => none
    | _ => none
theorem dropSeq_zero (c : Code) : dropSeq 0 c = c := by cases c <;> rfl
theorem execN_sound {S : RStat} (hS : S.ok) {n m : Nat} {cfg : Cfg} {F : Frm} (hP : F.P = S.P) (ht : cfg.tys = S.tys) (hC : CfgOk F cfg) (hrd : F.rd = none) {Q : Exit → St → Prop} : ∀ {k : Nat} {c : Code} {s s' : St}, execN S n m cfg k c s = some s' → LWP F (dropSeq k c) Q s' → LWP F c Q s
  | 0, c, s, s', h, hq => by cases h; rw [dropSeq_zero] at hq; exact hq
  | k + 1, c, s, s', h, hq => by
    cases c with
    | seq x y =>
      simp only [execN] at h
      split at h
      · rename_i s1 h1
        refine lwp_seq fun K hK => lwp_mono (exec_sound hS n F m true cfg x s _ _ hP ht hC (fun _ => hrd) h1) ?_
        rintro e' t ⟨rfl, rfl⟩
        exact hK _ (lwp_sub (gc_sub F m t) (execN_sound hS hP ht hC hrd h hq))
      · cases h
    | _ => cases h
def bodyOf (P : Program) (f : FuncId) : Code := match P.funcs[f]? with
  | some fn => match fn.body with
    | some c => c
    | none => .skip
  | none => .skip
/-- The body's run from a state of the arguments, in parts, as a contract. -/
theorem spec_parts {S : RStat} (hS : S.ok) {f : FuncId} {fn : Func} {c : Code} {gl : List (Nat × Nat)} {hin : List (Nat × Chunk)} {args : List AV} {hout : List (Nat × Chunk)} {ret : AV} (m : Nat)
    (hf : S.P.funcs[f]? = some fn) (hcall : callable fn = true) (hb : fn.body = some c) (hm : allKeys m hin = true) (hn : args.length ≤ fn.ntmps) (hg : ∀ g i, (g, i) ∈ gl → i < m)
    (hbody : ∀ F : Frm, F.P = S.P → CfgOk F ⟨fn.ntmps, S.tys, gl⟩ → F.rd = none → LWP F c (EndPost ⟨fn.ntmps, S.tys, gl⟩ m fn.results.toList hout ret) ⟨enumT nums args, hin, m⟩) : FnSpec S.P f gl hin args hout ret :=
  spec_of_body m hf hcall hb hS.tv hm hn hg fun F hP _ hC hrd => by rw [force_eq]; exact hbody F hP hC hrd

end Go.Sym
