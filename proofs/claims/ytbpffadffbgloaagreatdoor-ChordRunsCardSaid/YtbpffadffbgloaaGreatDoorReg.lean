/- A region that draws its order: all orders at once, by facts that last. -/
import Derived.OrdersHeld
import Derived.Deep.RegionHeld
set_option linter.unusedVariables false
set_option linter.unusedSimpArgs false
namespace Go.Proofs.YtbpffadffbgloaaGreatDoor

section
variable {P : Program} {ops : Array Oper} {Q : Exit → Act → World → Prop} {md : Region.Mode} {S : World → Prop}

def dstOf (ops : Array Oper) (i : Nat) : Option Tmp := (ops[i]?).bind (·.dst)

/-- The state with the values vs laid for the operations of a list. -/
def putL (ops : Array Oper) (vs : Nat → Value) : List Nat → Act → Act
  | [], a => a
  | i :: is, a => putL ops vs is (a.put (dstOf ops i) (vs i))

theorem putL_append (vs : Nat → Value) : ∀ (l m : List Nat) (a : Act), putL ops vs (l ++ m) a = putL ops vs m (putL ops vs l a)
  | [], _, _ => rfl
  | i :: l, m, a => by simp only [List.cons_append, putL]; exact putL_append vs l m _

theorem putL_defers (vs : Nat → Value) : ∀ (l : List Nat) (a : Act), (putL ops vs l a).defers = a.defers
  | [], _ => rfl
  | i :: l, a => by
    simp only [putL]; rw [putL_defers vs l]; unfold Act.put; cases dstOf ops i <;> rfl

theorem putL_get (vs : Nat → Value) (d : Nat) : ∀ (l : List Nat) (a : Act), (∀ i ∈ l, dstOf ops i ≠ some d) → (putL ops vs l a).tmps[d]? = a.tmps[d]?
  | [], _, _ => rfl
  | i :: l, a, h => by
    simp only [putL]
    rw [putL_get vs d l _ (fun j hj => h j (List.mem_cons_of_mem _ hj))]
    have := h i List.mem_cons_self
    unfold Act.put
    cases hd : dstOf ops i with
    | none => rfl
    | some e => simp only; rw [Array.getElem?_setIfInBounds_ne (fun e' => this (by rw [hd, e']))]

theorem putL_size (vs : Nat → Value) : ∀ (l : List Nat) (a : Act), (putL ops vs l a).tmps.size = a.tmps.size
  | [], _ => rfl
  | i :: l, a => by
    simp only [putL]; rw [putL_size vs l]; unfold Act.put; cases dstOf ops i <;> simp

theorem putL_congr {vs vs' : Nat → Value} : ∀ (l : List Nat) (a : Act), (∀ i ∈ l, vs i = vs' i) → putL ops vs l a = putL ops vs' l a
  | [], _, _ => rfl
  | i :: l, a, h => by
    simp only [putL]; rw [h i List.mem_cons_self]; exact putL_congr l _ (fun j hj => h j (List.mem_cons_of_mem _ hj))

/-- The destinations of these are apart. -/
def Apart (ops : Array Oper) (l : List Nat) : Prop := ∀ i ∈ l, ∀ j ∈ l, i ≠ j → ∀ d, dstOf ops i = some d → dstOf ops j ≠ some d

theorem putL_perm {vs : Nat → Value} {l m : List Nat} (hp : l.Perm m) (hn : l.Nodup) (h : Apart ops l) : ∀ a, putL ops vs l a = putL ops vs m a := by
  induction hp with
  | nil => intro a; rfl
  | cons x hp ih =>
    intro a
    simp only [putL]
    exact ih (List.nodup_cons.1 hn).2 (fun i hi j hj => h i (List.mem_cons_of_mem _ hi) j (List.mem_cons_of_mem _ hj)) _
  | swap x y l =>
    intro a
    simp only [putL]
    have hne : y ≠ x := fun e => by subst e; simp at hn
    rw [Act.put_comm a _ _ (h y (by simp) x (by simp) hne)]
  | trans h1 h2 ih1 ih2 =>
    intro a
    rw [ih1 hn h a, ih2 (h1.nodup_iff.1 hn) (fun i hi j hj => h i (h1.mem_iff.2 hi) j (h1.mem_iff.2 hj)) a]

/-- What another operation has laid makes no difference to one that does not look at it. -/
theorem wpOp_unput {j : Nat} {oj : Oper} {x : Option Tmp} {v : Value} (hj : ops[j]? = some oj) (h1 : ∀ d, x = some d → d ∉ oj.looksAt ops)
    (h2 : ∀ d, x = some d → oj.dst ≠ some d) (hsj : ∀ cs b, oj.op ≠ .select cs b)
    (hQ : ∀ c a w, Q (.panic c) (a.put x v) w → Q (.panic c) a w) {K : Act → World → Prop} {a : Act} {w : World}
    (h : wpOp P ops Q j K (a.put x v) w) : wpOp P ops Q j (fun a' w' => K (a'.put x v) w') a w := by
  unfold wpOp at *
  simp only [hj] at *
  rw [wanted_put oj a x v h1] at h
  split
  · rename_i hw
    simp only [hw, if_true] at h
    rcases h with h | ⟨hasks, hlets⟩
    case inr => exact .inr ⟨by unfold Oper.asks at *; rw [execOp_put oj hsj a x v h1] at hasks; exact hasks, hlets⟩
    refine .inl ?_
    unfold Oper.wp at *
    rw [execOp_put oj hsj a x v h1] at h
    generalize (execOp a.eval oj).run P w = r at *
    cases r with
    | ok n w' =>
      cases n <;> simp only [Oper.upon] at h ⊢
      case value u => rw [← Act.put_comm a v u h2]; exact h
      case skip => rw [← Act.put_comm a v undef h2]; exact h
      case defer d =>
        rw [← Act.put_comm _ v undef h2, ← Act.put_defers]
        exact h
      case enter f args =>
        refine Calls.mono h fun e w'' he => ?_
        cases e with
        | returned u => simp only at he ⊢; rw [← Act.put_comm a v u h2]; exact he
        | panicked c => exact hQ _ _ _ he
        | outgrown => exact he
      case row row args => exact Rows.mono h fun u w'' he => by rw [← Act.put_comm a v u h2]; exact he
    | halt x w' =>
      cases x <;> simp only [Oper.upon] at h ⊢
      case panic u => exact hQ _ _ _ h
  · rename_i hw
    simp only [hw] at h
    rw [← Act.put_comm a v undef h2]; exact h

theorem wpOp_unputL {j : Nat} {oj : Oper} {vs : Nat → Value} (hj : ops[j]? = some oj) (hsj : ∀ cs b, oj.op ≠ .select cs b)
    (hQ : ∀ c x v a w, Q (.panic c) (a.put x v) w → Q (.panic c) a w) {K : Act → World → Prop} {w : World} :
    ∀ (l : List Nat) (a : Act), (∀ i ∈ l, ∀ d, dstOf ops i = some d → d ∉ oj.looksAt ops ∧ oj.dst ≠ some d) →
      wpOp P ops Q j K (putL ops vs l a) w → wpOp P ops Q j (fun a' w' => K (putL ops vs l a') w') a w
  | [], _, _, h => h
  | i :: l, a, hl, h => by
    have h1 := wpOp_unputL hj hsj hQ l _ (fun k hk => hl k (List.mem_cons_of_mem _ hk)) h
    exact wpOp_unput hj (fun d hd => (hl i List.mem_cons_self d hd).1) (fun d hd => (hl i List.mem_cons_self d hd).2) hsj (fun c a w => hQ c _ _ a w) h1

/-- What lay in its own place makes no difference to an operation that does not look there. -/
theorem wpOp_unown {j : Nat} {oj : Oper} {v : Value} (hj : ops[j]? = some oj) (h1 : ∀ d, oj.dst = some d → d ∉ oj.looksAt ops)
    (hsj : ∀ cs b, oj.op ≠ .select cs b)
    (hQ : ∀ c x v a w, Q (.panic c) (a.put x v) w → Q (.panic c) a w) {K : Act → World → Prop} {a : Act} {w : World}
    (h : wpOp P ops Q j K (a.put oj.dst v) w) : wpOp P ops Q j K a w := by
  have pp : ∀ (a : Act) u, (a.put oj.dst v).put oj.dst u = a.put oj.dst u := fun a u => by
    unfold Act.put; cases oj.dst <;> simp
  unfold wpOp at *
  simp only [hj] at *
  rw [wanted_put oj a oj.dst v h1] at h
  split
  · rename_i hw
    simp only [hw, if_true] at h
    rcases h with h | ⟨hasks, hlets⟩
    case inr => exact .inr ⟨by unfold Oper.asks at *; rw [execOp_put oj hsj a oj.dst v h1] at hasks; exact hasks, hlets⟩
    refine .inl ?_
    unfold Oper.wp at *
    rw [execOp_put oj hsj a oj.dst v h1] at h
    generalize (execOp a.eval oj).run P w = r at *
    cases r with
    | ok n w' =>
      cases n <;> simp only [Oper.upon] at h ⊢
      case value u => rw [pp] at h; exact h
      case skip => rw [pp] at h; exact h
      case defer d => rw [Act.put_defers, pp] at h; exact h
      case enter f args =>
        refine Calls.mono h fun e w'' he => ?_
        cases e with
        | returned u => simp only [pp] at he ⊢; exact he
        | panicked c => exact hQ _ _ _ _ _ he
        | outgrown => exact he
      case row row args => exact Rows.mono h fun u w'' he => by rw [pp] at he; exact he
    | halt x w' =>
      cases x <;> simp only [Oper.upon] at h ⊢
      case panic u => exact hQ _ _ _ _ _ h
  · rename_i hw
    simp only [hw] at h
    rw [pp] at h; exact h

/-- What an operation leaves of the state. -/
theorem wpOp_shape {j : Nat} {oj : Oper} (hj : ops[j]? = some oj) {K : Act → World → Prop} {a : Act} {w : World} (h : wpOp P ops Q j K a w) :
    wpOp P ops Q j (fun a' w' => K a' w' ∧ ∃ u, a' = a.put oj.dst u ∨ a'.defers ≠ a.defers) a w := by
  unfold wpOp at *
  simp only [hj] at *
  split
  · rename_i hw
    simp only [hw, if_true] at h
    rcases h with h | h
    case inr => exact .inr h
    refine .inl ?_
    unfold Oper.wp at *
    generalize (execOp a.eval oj).run P w = r at *
    cases r with
    | ok n w' =>
      cases n <;> simp only [Oper.upon] at h ⊢
      case value u => exact ⟨h, u, .inl rfl⟩
      case skip => exact ⟨h, _, .inl rfl⟩
      case defer d =>
        refine ⟨h, undef, .inr ?_⟩
        unfold Act.put
        cases oj.dst <;> simp
      case enter f args =>
        refine Calls.mono h fun e w'' he => ?_
        cases e with
        | returned u => exact ⟨he, u, .inl rfl⟩
        | panicked c => exact he
        | outgrown => exact he
      case row row args => exact Rows.mono h fun u w'' he => ⟨he, u, .inl rfl⟩
    | halt x w' =>
      cases x <;> simp only [Oper.upon] at h ⊢
      case panic u => exact h
  · rename_i hw
    simp only [hw] at h
    exact ⟨h, undef, .inl rfl⟩

/-- Number i waits for number j. -/
def waits (md : Region.Mode) (ops : Array Oper) (i j : Nat) : Bool :=
  match ops[i]? with
  | some o => o.after.any fun e => Region.binds md e && e.on == j
  | none => false

def inOrder (md : Region.Mode) (ops : Array Oper) : List Nat → Array Bool → Bool
  | [], _ => true
  | i :: is, s => (Region.ready md ops s).contains i && inOrder md ops is (s.setIfInBounds i true)

def stableOk (md : Region.Mode) (ops : Array Oper) (listed : Array Bool) (n : Nat) (ins : List Nat) : Bool :=
  Region.noSelect ops && decide ins.Nodup && listed.size == ops.size && inOrder md ops ins listed &&
  (ins.all fun i => !listed.getD i true && (match ops[i]? with
    | some o => (match o.dst with | some d => decide (d < n) && !(o.looksAt ops).contains d | none => true) &&
        ins.all (fun j => i == j || (match dstOf ops j with
          | some e => o.dst != some e && (!(o.looksAt ops).contains e || waits md ops i j)
          | none => true))
    | none => false)) &&
  (List.range ops.size).all fun k => listed.getD k true || ins.contains k || ins.all fun i => waits md ops k i

structure StableOk (md : Region.Mode) (ops : Array Oper) (listed : Array Bool) (n : Nat) (ins : List Nat) : Prop where
  sel : Region.noSelect ops = true
  nodup : ins.Nodup
  size : listed.size = ops.size
  order : inOrder md ops ins listed = true
  free : ∀ i ∈ ins, listed.getD i true = false
  op : ∀ i ∈ ins, ∃ o, ops[i]? = some o ∧ (∀ d, o.dst = some d → d < n ∧ d ∉ o.looksAt ops)
  sep : ∀ i ∈ ins, ∀ o, ops[i]? = some o → ∀ j ∈ ins, i ≠ j → ∀ e, dstOf ops j = some e → o.dst ≠ some e ∧ (e ∈ o.looksAt ops → waits md ops i j = true)
  tail : ∀ k, k < ops.size → listed.getD k true = false → k ∉ ins → ∀ i ∈ ins, waits md ops k i = true

theorem StableOk.of {listed : Array Bool} {n : Nat} {ins : List Nat} (h : stableOk md ops listed n ins = true) : StableOk md ops listed n ins := by
  unfold stableOk at h
  simp only [Bool.and_eq_true, decide_eq_true_eq, beq_iff_eq, List.all_eq_true, Bool.not_eq_true'] at h
  obtain ⟨⟨⟨⟨⟨h1, h2⟩, h3⟩, h0⟩, h4⟩, h5⟩ := h
  refine ⟨h1, h2, h3, h0, fun i hi => (h4 i hi).1, fun i hi => ?_, fun i hi o ho j hj hij e he => ?_, fun k hk hl hn i hi => ?_⟩
  · have := (h4 i hi).2
    cases ho : ops[i]? with
    | none => simp [ho] at this
    | some o =>
      refine ⟨o, rfl, fun d hd => ?_⟩
      simp only [ho, hd, Bool.and_eq_true, decide_eq_true_eq, Bool.not_eq_true'] at this
      exact ⟨this.1.1, by simpa using this.1.2⟩
  · have := (h4 i hi).2
    simp only [ho, Bool.and_eq_true, List.all_eq_true] at this
    have := this.2 j hj
    simp only [he, Bool.or_eq_true, beq_iff_eq, hij, false_or, Bool.and_eq_true, bne_iff_ne, ne_eq, Bool.not_eq_true'] at this
    exact ⟨this.1, fun hm => this.2.resolve_left (by simpa using hm)⟩
  · have := h5 k (List.mem_range.2 hk)
    simp only [hl, Bool.or_eq_true, Bool.false_eq_true, false_or, List.contains_iff_mem, hn, List.all_eq_true] at this
    exact this i hi

def setL (l : List Nat) (listed : Array Bool) : Array Bool := l.foldl (fun s i => s.setIfInBounds i true) listed

theorem setL_size : ∀ (l : List Nat) (s : Array Bool), (setL l s).size = s.size
  | [], _ => rfl
  | i :: l, s => by simp only [setL, List.foldl_cons]; exact (setL_size l _).trans (by simp)

theorem setL_ne (d : Bool) (k : Nat) : ∀ (l : List Nat) (s : Array Bool), k ∉ l → (setL l s).getD k d = s.getD k d
  | [], _, _ => rfl
  | i :: l, s, h => by
    simp only [setL, List.foldl_cons]
    refine (setL_ne d k l _ (fun e => h (List.mem_cons_of_mem _ e))).trans (getD_set_ne d (fun e => h (e ▸ List.mem_cons_self)))

theorem setL_mem (k : Nat) : ∀ (l : List Nat) (s : Array Bool), k < s.size → k ∈ l → (setL l s).getD k true = true
  | i :: l, s, hk, h => by
    simp only [setL, List.foldl_cons]
    by_cases hl : k ∈ l
    · exact setL_mem k l _ (by simpa using hk) hl
    · have hki : k = i := by simpa [hl] using h
      subst hki
      refine (setL_ne true k l _ hl).trans ?_
      simp [hk]

theorem setL_perm {l m : List Nat} (h : l.Perm m) : ∀ s : Array Bool, setL l s = setL m s := by
  induction h with
  | nil => intro s; rfl
  | cons x _ ih => intro s; exact ih _
  | swap x y l =>
    intro s
    simp only [setL, List.foldl_cons]
    by_cases h : x = y
    · subst h; rfl
    · rw [Array.setIfInBounds_comm _ _ (fun e => h e.symm)]
  | trans _ _ ih1 ih2 => intro s; rw [ih1, ih2]

theorem setL_mono {k : Nat} {p m : List Nat} {s : Array Bool} (h : ∀ i ∈ p, i ∈ m) (hk : (setL p s).getD k false = true) : (setL m s).getD k false = true := by
  by_cases hm : k ∈ m
  · have hlt : k < s.size := by
      rcases Nat.lt_or_ge k (setL p s).size with h' | h'
      · rwa [setL_size] at h'
      · simp [Array.getElem?_eq_none h'] at hk
    have := setL_mem k m s hlt hm
    have h2 : k < (setL m s).size := by rw [setL_size]; exact hlt
    simp [h2] at this ⊢; exact this
  · rw [setL_ne false k m s hm]
    rwa [setL_ne false k p s (fun e => hm (h k e))] at hk

/-- Of what is left something may come up. -/
theorem ready_of_left {dn : List Nat} {listed : Array Bool} : ∀ (l p : List Nat), (∀ i ∈ p, i ∈ dn) → inOrder md ops l (setL p listed) = true → (∀ i ∈ l, listed.getD i true = false) →
    (∃ k ∈ l, k ∉ dn) → ∃ k, k ∈ Region.ready md ops (setL dn listed)
  | [], _, _, _, _, ⟨k, hk, _⟩ => by cases hk
  | i :: l, p, hp, ho, hl, hex => by
    simp only [inOrder, Bool.and_eq_true] at ho
    by_cases hi : i ∈ dn
    · refine ready_of_left l (p ++ [i]) (fun k hk => ?_) ?_ (fun k hk => hl k (List.mem_cons_of_mem _ hk)) ?_
      · rcases List.mem_append.1 hk with h | h
        · exact hp k h
        · rw [List.mem_singleton.1 h]; exact hi
      · have := ho.2; unfold setL at *; rwa [List.foldl_append]
      · obtain ⟨k, hk, hn⟩ := hex
        rcases List.mem_cons.1 hk with rfl | hk
        · exact absurd hi hn
        · exact ⟨k, hk, hn⟩
    · have h1 := ho.1
      rw [List.contains_iff_mem] at h1
      obtain ⟨_, o, hoo, hall⟩ := mem_ready.1 h1
      exact ⟨i, mem_ready.2 ⟨by rw [setL_ne true i dn listed hi]; exact hl i List.mem_cons_self, o, hoo, fun e he hb => setL_mono hp (hall e he hb)⟩⟩

/-- The block that a pointer names. -/
def blockOf : Value → Option Nat
  | .pointer (some a) => some a.block
  | _ => none
/-- What a step makes is new. -/
def NewAt (al : List Nat) (i : Nat) (v : Value) (w w' : World) : Prop := i ∈ al → ∀ b, blockOf v = some b → w.heap.size ≤ b ∧ b < w'.heap.size
/-- What the steps have made are blocks apart. -/
def Sundry (al dn : List Nat) (vs : Nat → Value) (w : World) : Prop :=
  (∀ i ∈ dn, i ∈ al → ∀ b, blockOf (vs i) = some b → b < w.heap.size) ∧ ∀ i ∈ dn, ∀ j ∈ dn, i ∈ al → j ∈ al → i ≠ j → ∀ b c, blockOf (vs i) = some b → blockOf (vs j) = some c → b ≠ c

theorem wpAnyH_stable_aux {ins : List Nat} {listed : Array Bool} {a : Act} {w0 : World} (R : World → World → Prop) (al : List Nat) (hsz : ∀ u v, R u v → u.heap.size ≤ v.heap.size) (htrans : ∀ u v w, R u v → R v w → R u w) (F : Nat → Value → World → Prop)
    (ok : StableOk md ops listed a.tmps.size ins)
    (hQ : ∀ c x v a w, Q (.panic c) (a.put x v) w → Q (.panic c) a w)
    (hst : ∀ i ∈ ins, ∀ v w w', F i v w → R w w' → F i v w')
    (hstep : ∀ i ∈ ins, ∀ (vs : Nat → Value) (w : World), R w0 w → (∀ j ∈ ins, waits md ops i j = true → F j (vs j) w) →
      ∀ K : Act → World → Prop, Shut (∀ v w', R w w' → F i v w' → NewAt al i v w w' → K ((putL ops vs ins a).put (dstOf ops i) v) w') → wpOp P ops Q i K (putL ops vs ins a) w)
    (hS : ∀ w, R w0 w → S w) {fuel : Nat}
    (hend : ∀ (vs : Nat → Value) (w : World), R w0 w → Sundry al ins vs w → (∀ j ∈ ins, F j (vs j) w) → wpAnyH P md ops Q S fuel (setL ins listed) (putL ops vs ins a) w) :
    ∀ (left dn : List Nat) (vs : Nat → Value) (w : World), ins.Perm (dn ++ left) → R w0 w → Sundry al dn vs w → (∀ j ∈ dn, F j (vs j) w) →
      wpAnyH P md ops Q S (left.length + fuel) (setL dn listed) (putL ops vs dn a) w := by
  have hap : Apart ops ins := fun i hi j hj hij d hd hjd => by
    obtain ⟨o, ho, _⟩ := ok.op i hi
    exact (ok.sep i hi o ho j hj hij d hjd).1 (by simpa [dstOf, ho] using hd)
  have hlt : ∀ i ∈ ins, i < listed.size := fun i hi => by
    obtain ⟨o, ho, _⟩ := ok.op i hi
    rw [ok.size]; exact (Array.getElem?_eq_some_iff.1 ho).1
  intro left
  generalize hn : left.length = n
  induction n generalizing left with
  | zero =>
    intro dn vs w hp hR hSun hF
    obtain rfl := List.length_eq_zero_iff.1 hn
    rw [List.append_nil] at hp
    rw [← setL_perm hp, ← putL_perm hp ok.nodup hap]
    simpa using hend vs w hR ⟨fun i hi => hSun.1 i (hp.mem_iff.1 hi), fun i hi j hj => hSun.2 i (hp.mem_iff.1 hi) j (hp.mem_iff.1 hj)⟩ (fun j hj => hF j (hp.mem_iff.1 hj))
  | succ n ih =>
    intro dn vs w hp hR hSun hF
    rw [Nat.succ_add]
    have hmem : ∀ k, k ∈ ins ↔ k ∈ dn ∨ k ∈ left := fun k => by rw [hp.mem_iff, List.mem_append]
    have hnd : (dn ++ left).Nodup := hp.nodup_iff.1 ok.nodup
    have hdis : ∀ k, k ∈ left → k ∉ dn := fun k hk hd => (List.nodup_append.1 hnd).2.2 k hd k hk rfl
    have hmust : ∀ k ∈ Region.ready md ops (setL dn listed), k ∈ left := fun k hk => by
      obtain ⟨hl, o, ho, hall⟩ := mem_ready.1 hk
      have hkd : k ∉ dn := fun h => by
        rw [setL_mem k dn listed (hlt k ((hmem k).2 (.inl h))) h] at hl; cases hl
      rw [setL_ne true k dn listed hkd] at hl
      refine Classical.byContradiction fun hkl => ?_
      have hki : k ∉ ins := fun h => ((hmem k).1 h).elim hkd hkl
      match left, hn with
      | i :: left', _ =>
      have hi : i ∈ ins := (hmem i).2 (.inr List.mem_cons_self)
      have := ok.tail k (Array.getElem?_eq_some_iff.1 ho).1 hl hki i hi
      simp only [waits, ho] at this
      obtain ⟨e, he, hb⟩ := Array.any_eq_true'.1 this
      simp only [Bool.and_eq_true, beq_iff_eq] at hb
      have h3 := hall e he hb.1
      rw [hb.2, setL_ne false i dn listed (hdis i List.mem_cons_self)] at h3
      have h4 := ok.free i hi
      have h5 := hlt i hi
      simp [h5] at h3 h4
      rw [h3] at h4; cases h4
    refine ⟨fun h0 => ?_, fun i hi => ?_⟩
    · exfalso
      match left, hn with
      | k :: left', _ =>
      have hk : k ∈ ins := (hmem k).2 (.inr List.mem_cons_self)
      obtain ⟨r, hr⟩ := ready_of_left (dn := dn) ins [] (fun _ h => by cases h) ok.order ok.free ⟨k, hk, hdis k List.mem_cons_self⟩
      rw [h0] at hr; cases hr
    · have hil := hmust i hi
      have hii : i ∈ ins := (hmem i).2 (.inr hil)
      obtain ⟨o, ho, hod⟩ := ok.op i hii
      have hdst : dstOf ops i = o.dst := by simp [dstOf, ho]
      obtain ⟨hl, o', ho', hall⟩ := mem_ready.1 hi
      rw [ho] at ho'; obtain rfl := Option.some.inj ho'
      have hdone : ∀ j ∈ ins, waits md ops i j = true → j ∈ dn := fun j hj hw => by
        simp only [waits, ho] at hw
        obtain ⟨e, he, hb⟩ := Array.any_eq_true'.1 hw
        simp only [Bool.and_eq_true, beq_iff_eq] at hb
        have h3 := hall e he hb.1
        refine Classical.byContradiction fun hjd => ?_
        rw [hb.2, setL_ne false j dn listed hjd] at h3
        have h4 := ok.free j hj
        have h5 := hlt j hj
        simp [h5] at h3 h4
        rw [h3] at h4; cases h4
      have hsel := fun cs b => Region.noSelect_spec ok.sel i o cs b ho
      have h1 := hstep i hii vs w hR (fun j hj hw => hF j (hdone j hj hw)) (fun a' w' => ∃ v, a' = (putL ops vs ins a).put (dstOf ops i) v ∧ R w w' ∧ F i v w' ∧ NewAt al i v w w') (fun v w' hR' hF' hN' => ⟨v, rfl, hR', hF', hN'⟩)
      have hrest : left.Perm (i :: left.erase i) := List.perm_cons_erase hil
      have hp2 : ins.Perm ((dn ++ left.erase i) ++ [i]) := hp.trans (by
        rw [List.append_assoc]
        exact List.Perm.append_left _ (hrest.trans (List.perm_append_comm (l₁ := [i]) (l₂ := left.erase i))))
      have hp3 : ins.Perm ((dn ++ [i]) ++ left.erase i) := hp.trans (by
        rw [List.append_assoc]
        exact List.Perm.append_left _ hrest)
      have hnd3 := hp3.nodup_iff.1 ok.nodup
      have hir : i ∉ left.erase i := fun h => (List.nodup_append.1 hnd3).2.2 i (by simp) i h rfl
      have hrm : ∀ k ∈ left.erase i, k ∈ left := fun k hk => List.mem_of_mem_erase hk
      have hfull : putL ops vs ins a = (putL ops vs (left.erase i) (putL ops vs dn a)).put o.dst (vs i) := by
        rw [putL_perm hp2 ok.nodup hap, putL_append, putL_append]
        simp only [putL, hdst]
      rw [hfull] at h1
      have h2 := wpOp_unown ho (fun d hd => (hod d hd).2) hsel hQ h1
      have h3 := wpOp_unputL ho hsel hQ (left.erase i) _ (fun k hk d hd => by
        have hki : k ∈ ins := (hmem k).2 (.inr (hrm k hk))
        have hik : i ≠ k := fun e => hir (e ▸ hk)
        have := ok.sep i hii o ho k hki hik d hd
        exact ⟨fun h => hdis k (hrm k hk) (hdone k hki (this.2 h)), this.1⟩) h2
      refine wpOp_mono (fun a' w' h4 => ?_) (wpOp_shape ho h3)
      obtain ⟨⟨v, hv, hRw, hFv, hNv⟩, u, hu⟩ := h4
      have hR' := htrans _ _ _ hR hRw
      refine ⟨hS _ hR', ?_⟩
      have hdef : a'.defers = (putL ops vs dn a).defers := by
        have := congrArg Act.defers hv
        rw [putL_defers] at this
        rw [this, hdst]
        unfold Act.put
        cases o.dst <;> simp [putL_defers]
      have ha' : a' = (putL ops vs dn a).put o.dst v := by
        rcases hu with hu | hu
        case inr => exact absurd hdef hu
        cases hd : o.dst with
        | none => rw [hd] at hu; exact hu
        | some d =>
          rw [hd] at hu
          have hlt' : d < (putL ops vs dn a).tmps.size := by rw [putL_size]; exact (hod d hd).1
          have := congrArg (fun x => x.tmps[d]?) hv
          rw [putL_get vs d _ _ (fun k hk e => (ok.sep i hii o ho k ((hmem k).2 (.inr (hrm k hk))) (fun e' => hir (e' ▸ hk)) d e).1 hd), hu, hdst, hd] at this
          have hlt2 : d < (putL ops vs (left.erase i) (putL ops vs dn a)).tmps.size := by rw [putL_size]; exact hlt'
          simp [Act.put, hlt', hlt2] at this
          rw [hu, this]
      let vs' : Nat → Value := fun k => if k = i then v else vs k
      have hvs : ∀ k ∈ dn, vs k = vs' k := fun k hk => by
        have : k ≠ i := fun e => hdis i hil (e ▸ hk)
        simp [vs', this]
      have hlen : (left.erase i).length = n := by
        have := hrest.length_eq
        simp only [List.length_cons] at this; omega
      have hvi : vs' i = v := by simp [vs']
      have hsun' : Sundry al (dn ++ [i]) vs' w' := by
        have hw := hsz _ _ hRw
        refine ⟨fun k hk hka b hb => ?_, fun k hk j hj hka hja hkj b c hb hc => ?_⟩
        · rcases List.mem_append.1 hk with h | h
          · rw [← hvs k h] at hb; exact Nat.lt_of_lt_of_le (hSun.1 k h hka b hb) hw
          · rw [List.mem_singleton.1 h] at hb hka; rw [hvi] at hb; exact (hNv hka b hb).2
        · rcases List.mem_append.1 hk with h | h <;> rcases List.mem_append.1 hj with h' | h'
          · rw [← hvs k h] at hb; rw [← hvs j h'] at hc; exact hSun.2 k h j h' hka hja hkj b c hb hc
          · rw [← hvs k h] at hb; rw [List.mem_singleton.1 h'] at hc hja; rw [hvi] at hc
            have h1 := hSun.1 k h hka b hb
            have h2 := (hNv hja c hc).1
            omega
          · rw [← hvs j h'] at hc; rw [List.mem_singleton.1 h] at hb hka; rw [hvi] at hb
            have h1 := hSun.1 j h' hja c hc
            have h2 := (hNv hka b hb).1
            omega
          · exact absurd ((List.mem_singleton.1 h).trans (List.mem_singleton.1 h').symm) hkj
      have := ih (left.erase i) hlen (dn ++ [i]) vs' w' hp3 hR' hsun' (fun j hj => by
        rcases List.mem_append.1 hj with h | h
        · rw [← hvs j h]; exact hst j ((hmem j).2 (.inl h)) _ _ _ (hF j h) hRw
        · rw [List.mem_singleton.1 h]; simpa [vs'] using hFv)
      rw [putL_append] at this
      simp only [putL, hdst] at this
      rw [← putL_congr dn a hvs] at this
      have e1 : vs' i = v := by simp [vs']
      have e2 : setL (dn ++ [i]) listed = (setL dn listed).setIfInBounds i true := by unfold setL; rw [List.foldl_append]; rfl
      rw [e1, e2, ← ha'] at this
      exact this

/-- **All orders at once**: what each operation yields is told by a fact that lasts. -/
theorem wpAnyH_stable (ins al : List Nat) (R : World → World → Prop) (F : Nat → Value → World → Prop) (pl : Act → (Nat → Value) → Act) {listed : Array Bool} {a : Act} {w0 : World} {m : Nat} (hrefl : R w0 w0)
    (hsz : ∀ u v, R u v → u.heap.size ≤ v.heap.size) (htrans : ∀ u v w, R u v → R v w → R u w) (hok : stableOk md ops listed a.tmps.size ins = true)
    (hQ : ∀ c x v a w, Q (.panic c) (a.put x v) w → Q (.panic c) a w)
    (hpl : ∀ vs, putL ops vs ins a = pl a vs)
    (hst : ∀ i ∈ ins, ∀ v w w', F i v w → R w w' → F i v w')
    (hS : ∀ w, R w0 w → S w)
    (hstep : ∀ i ∈ ins, ∀ (vs : Nat → Value) (w : World), R w0 w → S w → (∀ j ∈ ins, waits md ops i j = true → F j (vs j) w) →
      ∀ K : Act → World → Prop, Shut (∀ v w', R w w' → F i v w' → NewAt al i v w w' → K ((pl a vs).put (dstOf ops i) v) w') → wpOp P ops Q i K (pl a vs) w)
    {fuel : Nat} (hm : m = ins.length + fuel)
    (hend : ∀ (vs : Nat → Value) (w : World), R w0 w → S w → Sundry al ins vs w → (∀ j ∈ ins, F j (vs j) w) → wpAnyH P md ops Q S fuel (setL ins listed) (pl a vs) w) :
    wpAnyH P md ops Q S m listed a w0 := by
  subst hm
  refine wpAnyH_stable_aux R al hsz htrans F (StableOk.of hok) hQ hst ?_ hS ?_ ins [] (fun _ => undef) w0 (List.Perm.refl _) hrefl ⟨(fun _ h => by cases h), (fun _ h => by cases h)⟩ (fun _ h => by cases h)
  · intro i hi vs w hR hF K hK
    rw [hpl] at hK ⊢
    exact hstep i hi vs w hR (hS w hR) hF K hK
  · intro vs w hR hSun hF
    rw [hpl]
    exact hend vs w hR (hS w hR) hSun hF

/-- One step, in the form that a walk takes. -/
theorem step_in {i : Nat} {o : Oper} {K : Act → World → Prop} {a : Act} {w : World} {R : World → World → Prop} {F N : Value → World → Prop} (ho : ops[i]? = some o)
    (h : ∀ K' : Act → World → Prop, Shut (∀ v w', R w w' → F v w' → N v w' → K' (a.put o.dst v) w') → if Region.wanted o (yielded ops a.tmps) = true then Oper.wp P o a w K' Q else K' (a.put o.dst undef) w)
    (hK : Shut (∀ v w', R w w' → F v w' → N v w' → K (a.put (dstOf ops i) v) w')) : wpOp P ops Q i K a w := by
  have e : dstOf ops i = o.dst := by simp [dstOf, ho]
  rw [e] at hK
  have h := h K hK
  unfold wpOp
  simp only [ho]
  split
  · rename_i hw; simp only [hw, if_true] at h; exact .inl h
  · rename_i hw; simp only [hw] at h; exact h

end
end Go.Proofs.YtbpffadffbgloaaGreatDoor
