/- Contracts: places, and what the function value that it gives does. -/
import Derived.RangeFuncNested
import Derived.RangeFuncBox
import Derived.RangeFuncLeaves
import Derived.Shelf.Abstract
import Derived.OwnWalkIn
import Derived.TacticsInMore
import Derived.LoopNIn
import Derived.LoopIn
import Derived.Test.YtbpffadffbgloaaGreatDoorB
set_option linter.unusedVariables false
set_option linter.unusedSimpArgs false
namespace Go.Proofs.YtbpffadffbgloaaGreatDoor
open Go.RowKit Go.Shelf

attribute [local go_sem] Oper.semAt_some

theorem places_c (a b : Int) (w : World) :
    Calls Tryz.prog 142 #[.int .i64 a, .int .i64 b] w fun r w' => r = .returned (.func (.func 164) #[] #[.pointer (some ⟨w.heap.size, 0, none⟩), .pointer (some ⟨w.heap.size + 1, 0, none⟩)]) ∧
      (w.alloc (.cells #[.int .i64 a] 3)).alloc (.cells #[.int .i64 b] 3) = w' := by
  have hmf : ∀ (fn : Fn) (first cap : Array Value) (w : World), (Instr.makeFunc fn first cap).run Tryz.prog w = .ok (.func fn first cap) w := fun _ _ _ _ => rfl
  go_enter Tryz.func142, Tryz.ntmps142
  go_wp2
  go_ret
  exact ⟨rfl, rfl⟩

def upto (a : Int) (k : Nat) : List Int := (List.range k).map fun i => a + (i : Nat)
theorem upto_succ (a : Int) (k : Nat) : upto a (k + 1) = upto a k ++ [a + k] := by simp [upto, List.range_succ]
theorem upto_len (a : Int) (k : Nat) : (upto a k).length = k := by simp [upto]
/-- What the body of a loop over places must keep: the two captured cells. -/
def KeepTwo (b1 b2 : Nat) (W W' : World) : Prop := W'.heap[b1]? = W.heap[b1]? ∧ W'.heap[b2]? = W.heap[b2]?
theorem KeepTwo.cell {b1 b2 : Nat} {W W' : World} (h : KeepTwo b1 b2 W W') : W'.cell? ⟨b1, 0, none⟩ = W.cell? ⟨b1, 0, none⟩ ∧ W'.cell? ⟨b2, 0, none⟩ = W.cell? ⟨b2, 0, none⟩ :=
  ⟨World.cell?_of_block (w := W) h.1, World.cell?_of_block (w := W) h.2⟩

/-- A place: so that a loop's body knows that it is not too great. -/
def Pl : Type := { x : Int // -1000000000 ≤ x ∧ x ≤ 1000000000 }
def mkP (x : Int) : Pl := ⟨max (-1000000000) (min x 1000000000), by omega⟩
theorem mkP_val {x : Int} (h0 : -1000000000 ≤ x) (h1 : x ≤ 1000000000) : (mkP x).1 = x := by simp only [mkP]; omega
def uptoP (a : Int) (k : Nat) : List Pl := (upto a k).map mkP
theorem uptoP_succ (a : Int) (k : Nat) : uptoP a (k + 1) = uptoP a k ++ [mkP (a + k)] := by simp [uptoP, upto_succ]
theorem uptoP_len (a : Int) (k : Nat) : (uptoP a k).length = k := by simp [uptoP, upto_len]
theorem uptoP_val (a : Int) (k : Nat) (h0 : -1000000000 ≤ a) (h1 : a + k ≤ 1000000000) : (uptoP a k).map (·.1) = upto a k := by
  rw [uptoP, List.map_map]
  conv => rhs; rw [← List.map_id (upto a k)]
  refine List.map_congr_left fun x hx => ?_
  obtain ⟨i, hi, rfl⟩ := List.mem_map.1 hx
  have := List.mem_range.1 hi
  exact mkP_val (by omega) (by omega)
def PlPost (a b : Int) (J Jx : List Pl → World → Prop) (e : Ending) (W' : World) : Prop := (∃ v, e = .returned v) ∧
  ((∃ ys, ys = uptoP a (b - a).toNat ∧ J ys W') ∨ (∃ pre, pre <+: uptoP a (b - a).toNat ∧ Jx pre W'))
theorem upto_prefix (a : Int) {k n : Nat} (h : k ≤ n) : uptoP a k <+: uptoP a n := by
  obtain ⟨d, rfl⟩ := Nat.exists_eq_add_of_le h
  induction d with
  | zero => exact List.prefix_rfl
  | succ d ih => exact (ih (by omega)).trans (by rw [← Nat.add_assoc, uptoP_succ]; exact List.prefix_append _ _)
/-- What is kept while a record or a list of deferred calls of this loop turns. -/
theorem blk_row {W W' : World} {g : Nat} {t : TypeId} {cs : Array Value} {row : Option Nat} (h : Blk W g t cs) (hg : W.grownBy W' row) (hr : ∀ r, row = some r → ∃ o : Obj, W.heap[r]? = some o ∧ o.isCells = false) : Blk W' g t cs :=
  h.grown hg (fun e => by
    obtain ⟨o, ho, hc⟩ := hr g e.symm
    unfold Blk at h
    rw [h] at ho
    cases ho
    exact absurd hc (by simp [Obj.isCells]))
theorem own_row {W W' : World} {base n sz : Nat} {e : TypeId} {v : Value} {xs : List Value} {row : Option Nat} (h : W.ownsRow base e sz v n xs) (hg : W.grownBy W' row) (hr : ∀ r, row = some r → ∃ o : Obj, W.heap[r]? = some o ∧ o.isCells = false) : W'.ownsRow base e sz v n xs := by
  refine h.kept hg ?_
  rcases h.2 with ⟨rfl, _⟩ | ⟨g', cap, cur, rfl, _, hh, _⟩
  · exact .inl rfl
  · refine .inr fun e => ?_
    obtain ⟨o, ho, hc⟩ := hr g' e.symm
    rw [hh] at ho
    cases ho
    exact absurd hc (by simp [Obj.isCells])
theorem below_row {W W' w : World} {B : Nat} {row : Option Nat} (h : Below B w W) (hB : B ≤ W.heap.size) (hg : W.grownBy W' row) (hr : ∀ r, row = some r → B ≤ r) : Below B w W' := h.grown hg hB hr
/-- Blocks that hold cells alone may be written: all else is kept. -/
theorem keepsFrom_touch {s : Nat → Prop} {W W' : World} (B : Nat) (h : Touch s W W') (hs : ∀ k o, s k → W.heap[k]? = some o → o.isCells = true) : KeepsFrom B W W' :=
  KeepsOthers.from ⟨h.size, fun k o hk hc => (h.block k (Array.getElem?_eq_some_iff.1 hk).1 (fun e => by rw [hs k o e hk] at hc; cases hc)).trans hk⟩ B
theorem own_cells {W : World} {base n sz : Nat} {e : TypeId} {v : Value} {xs : List Value} (h : W.ownsRow base e sz v n xs) {k : Nat} (hk : v.ownBlock = some k) {o : Obj} (ho : W.heap[k]? = some o) : o.isCells = true := by
  rcases h.2 with ⟨rfl, _⟩ | ⟨g', cap, cur, rfl, _, hh, _⟩
  · simp [Value.ownBlock] at hk
  · simp only [Value.ownBlock, Option.some.injEq] at hk
    subst hk
    rw [hh] at ho
    cases ho
    rfl

set_option maxHeartbeats 1000000 in
theorem places1_in (n : Nat) (hn : 1 ≤ n) (l b1 b2 : Nat) (a b : Int) (ha : -1000000000 ≤ a) (hb : b ≤ 1000000000) (J Jx : List Pl → World → Prop)
    (hY : ∀ (pre : List Pl) (x : Pl) (W : World), J pre W → pre.length < (b - a).toNat → YieldAt Fence.wide (n - 1) Tryz.prog l #[.int .i64 x.1] W fun e W' =>
      (e = .returned (.bool true) ∧ J (pre ++ [x]) W' ∧ KeepTwo b1 b2 W W') ∨ (e = .returned (.bool false) ∧ Jx (pre ++ [x]) W'))
    (W : World) (h1 : W.cell? ⟨b1, 0, none⟩ = some (.int .i64 a)) (h2 : W.cell? ⟨b2, 0, none⟩ = some (.int .i64 b)) (h0 : J [] W) :
    CallsIn Fence.wide n Tryz.prog 164 #[.func (.yield l) #[] #[], .pointer (some ⟨b1, 0, none⟩), .pointer (some ⟨b2, 0, none⟩)] W (PlPost a b J Jx) := by
  have HY := Lib.hid hY
  clear hY
  refine callsIn_of_wp Tryz.func164 rfl trivial ?_ rfl
  simp only [Tryz.ntmps164, List.size_toArray, List.length_cons, List.length_nil, Nat.reduceAdd, Nat.reduceSub, Array.replicate_succ, Array.replicate_zero, List.push_toArray, List.append_toArray, List.nil_append, List.cons_append]
  gi_wp2
  gi_loopw [4] (fun p wr => ∃ k : Nat, k ≤ (b - a).toNat ∧ p = .int .i64 (a + k) ∧ wr.cell? ⟨b1, 0, none⟩ = some (.int .i64 a) ∧ wr.cell? ⟨b2, 0, none⟩ = some (.int .i64 b) ∧ J (uptoP a k) wr)
    (fun p _ => (b - intOf p).toNat)
  case atStart => exact ⟨0, Nat.zero_le _, by simp, h1, h2, h0⟩
  case round =>
    obtain ⟨k, hk, rfl, h1', h2', hJ⟩ := hrel
    have HJ := Lib.hid hJ
    clear hJ
    by_cases hlt : a + (k : Int) < b
    · obtain ⟨fn, tmps, assign, body, hy, hR⟩ := HY.out (uptoP a k) (mkP (a + k)) wr HJ.out (by rw [uptoP_len]; omega)
      rw [mkP_val (by omega) (by omega)] at hy
      have HR := Lib.hid hR
      clear hR
      gi_wp2
      refine HR.out.mono ?_
      rintro e W3 (⟨rfl, hJ3, hk3⟩ | ⟨rfl, hJx3⟩)
      · have e1 := hk3.cell.1.trans h1'
        have e2 := hk3.cell.2.trans h2'
        have HJ3 := Lib.hid hJ3
        clear hJ3
        gi_wp2
        go_roundw
        case rel => exact ⟨k + 1, by omega, by go_num, e1, e2, by rw [uptoP_succ]; exact HJ3.out⟩
        case measure => simp [intOf]; omega
      · have HJ3 := Lib.hid hJx3
        clear hJx3
        gi_wp2
        refine bodyPost_ret (results_none rfl _ _ _) rfl ?_
        refine ⟨⟨_, rfl⟩, .inr ⟨uptoP a (k + 1), upto_prefix a (by omega), ?_⟩⟩
        rw [uptoP_succ]
        exact HJ3.out
    · gi_wp2
      go_end0
      refine ⟨⟨_, rfl⟩, .inl ⟨uptoP a k, ?_, HJ.out⟩⟩
      rw [show (b - a).toNat = k by omega]

theorem places1_stops (n : Nat) (hn : 1 ≤ n) (b1 b2 : Nat) (a b : Int) (ha : -1000000000 ≤ a) (hb : b ≤ 1000000000) (w : World) (hb1 : b1 < w.heap.size) (hb2 : b2 < w.heap.size) (h1 : w.cell? ⟨b1, 0, none⟩ = some (.int .i64 a)) (h2 : w.cell? ⟨b2, 0, none⟩ = some (.int .i64 b)) :
    SeqStopsK Fence.wide n Tryz.prog 164 #[.pointer (some ⟨b1, 0, none⟩), .pointer (some ⟨b2, 0, none⟩)] (fun x : Pl => #[Value.int .i64 x.1]) (KeepTwo b1 b2) (fun ys => ys = uptoP a (b - a).toNat) (fun pre => pre <+: uptoP a (b - a).toNat) (b - a).toNat w := fun l J Jx W hW _ _ hY h0 =>
  places1_in n hn l b1 b2 a b ha hb J Jx hY W ((hW.cell (p := ⟨b1, 0, none⟩) hb1).trans h1) ((hW.cell (p := ⟨b2, 0, none⟩) hb2).trans h2) h0

end Go.Proofs.YtbpffadffbgloaaGreatDoor
