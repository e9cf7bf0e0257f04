/- Chapter 5: the states of the pairs of a ride. -/
import Derived.Test.YtfmnfagcbehmdaaGreatDoorJa
import Derived.Test.YtfmnfagcbehmdaaGreatDoorEk
set_option linter.unusedVariables false
set_option linter.unusedSimpArgs false
namespace Go.Proofs.YtfmnfagcbehmdaaGreatDoor
open Go.RowKit Go.Sym

structure St where
  p : Int × Int
  cost : Int
  many : Int
  next : Int
def stV (t : St) : List Value := [.int .i64 t.p.1, .int .i64 t.p.2, .int .i64 t.cost, .int .i64 t.many, .int .i64 t.next]
def stD : St := ⟨(0, 0), 0, 0, 0⟩
def stC (l : List St) : Cont := genL stV stD 5 l
def stA (t : St) : AV := .agg [i64 t.p.1, i64 t.p.2, i64 t.cost, i64 t.many, i64 t.next]
theorem stC_snoc (l : List St) (x : St) : (stC (l ++ [x])).cells = (stC l).cells ++ (stV x).map AV.lit := genL_snoc (f := stV) (fun _ => rfl) l x
abbrev stAt (l : List St) (i : Nat) : St := l.getD i stD

def betterS (a b c d : Int) : Bool := bif decide (a < c) then true else bif decide (a = c) then decide (d < b) else false
def Better_i (a b c d : Int) (σ : Ren) : Inst := { f := 68, hin := [], args := [i64 a, i64 b, i64 c, i64 d], hout := [], ret := bl (betterS a b c d), σ := σ }
theorem Better_s (a b c d : Int) (σ : Ren) : (Better_i a b c d σ).ok Tryz.prog := by
  unfold Better_i Inst.ok; dsimp only; refine spec_of_body (tys := tys) 0 Tryz.func68 (by kernel_rfl) rfl tys_ok rfl (Nat.le_of_ble_eq_true rfl) (fun _ _ h => (by cases h)) fun F hP hm hC hrd => ?_; conv => whnf
  repeat first | refine lwp_seq fun K hK => ?_ | ((with_reducible refine gA ?_); apply_assumption -exfalso -symm) | refine gB ?_ | refine gC ?_ | refine gD ?_ | refine gE ?_ | refine gF rfl ?_ | refine gG rfl ?_ | refine gH ?_ | refine gI ?_ | refine gJ ?_ | refine gK ?_ | refine gL ?_ | refine gM hC rfl ⟨⟩ ?_ | refine gM hC rfl (by exact sd) ?_
  (refine end_intro (by first | exact .inr rfl | exact .inl rfl) [] rfl ?_)
  exact sd

theorem ix0 (a b : Int) (w : World) : (Instr.index 115 (.agg #[.int .i64 a, .int .i64 b]) (.int .i64 0)).run Tryz.prog w = .ok (.int .i64 a) w := by kernel_rfl
theorem ix1 (a b : Int) (w : World) : (Instr.index 115 (.agg #[.int .i64 a, .int .i64 b]) (.int .i64 1)).run Tryz.prog w = .ok (.int .i64 b) w := by kernel_rfl
/-- An element of an array of two numbers. -/
def custIx : Custom := ⟨fun o l => match o.op, l with
  | .index t _ _, [.agg [.lit (.int .i64 a), .lit (.int .i64 b)], .lit (.int .i64 n)] => match Nat.beq t 115 with
    | true => match decide (n = 0) with
      | true => some (.lit (.int .i64 a))
      | false => match decide (n = 1) with
        | true => some (.lit (.int .i64 b))
        | false => none
    | false => none
  | _, _ => none⟩
theorem custIx_ok : custIx.ok Tryz.prog := by
  intro o l r h ρ w e vs hd hv
  dsimp only [custIx] at h
  split at h
  · rename_i t x y a b n ho
    split at h
    · rename_i ht
      cases Nat.eq_of_beq_eq_true ht
      simp only [AV.denL, AV.den, listO, Option.map_some, Option.some.injEq] at hd
      subst hd
      rw [ho] at hv
      simp only [Op.operands, List.map_cons, List.map_nil, List.cons.injEq, and_true] at hv
      obtain ⟨e1, e2⟩ := hv
      split at h
      · rename_i hn
        cases of_decide_eq_true hn
        cases h
        refine ⟨_, rfl, ?_⟩
        simp [execOp, ho, e1, e2, ix0, Result.andThen]
      · split at h
        · rename_i hn
          cases of_decide_eq_true hn
          cases h
          refine ⟨_, rfl, ?_⟩
          simp [execOp, ho, e1, e2, ix1, Result.andThen]
        · cases h
    · cases h
  · cases h

def lastS (s : List Th) (c : Cs) (p : Int × Int) : St := ⟨p, c.missed * (s.length - 1 - p.1), 0, -1⟩
def boxIn (m s : List Th) (c : Cs) : List (Nat × Chunk) := [(0, .ro m.length 2 (thC m)), (1, .ro s.length 2 (thC s)), (2, .rb 38 [.sl 0 m.length, .sl 1 s.length]), (3, .rb 40 [i64 c.missed, i64 c.unseen, i64 c.stretch])]
def B1_i (m s : List Th) (c : Cs) (p : Int × Int) (σ : Ren) : Inst := { f := 129, hin := boxIn m s c, args := [prA p, .ptr 2 0 0 0, .ptr 3 0 0 0], hout := [], ret := stA (lastS s c p), σ := σ }
set_option maxRecDepth 20000 in
theorem B1_s (m s : List Th) (c : Cs) (p : Int × Int) (σ : Ren) (hc : csOk c) (hs : s.length ≤ 64) (hp : inS m s p) : (B1_i m s c p σ).ok Tryz.prog := by
  unfold B1_i Inst.ok; dsimp only; refine spec_of_body (tys := tys) 4 Tryz.func129 (by kernel_rfl) rfl tys_ok rfl (Nat.le_of_ble_eq_true rfl) (fun _ _ h => (by cases h)) fun F hP hm hC hrd => ?_; conv => whnf
  repeat first | refine lwp_seq fun K hK => ?_ | ((with_reducible refine gA ?_); apply_assumption -exfalso -symm) | refine gB ?_ | refine gC ?_ | refine gD ?_ | refine gE ?_ | refine gF rfl ?_ | refine gG rfl ?_ | refine gH ?_ | refine gI ?_ | refine gJ ?_ | refine gK ?_ | refine gL ?_ | refine gM hC rfl ⟨⟩ ?_ | refine gM hC rfl (by exact sd) ?_
  (refine lwp_drawn hC (by rw [hP]; exact mixed) ⟨[], [(6, custIx)], [(5, Ends_i m s c p p [(0, some 0), (1, some 1)])]⟩ ⟨(fun p hp => by rcases List.mem_cons.1 hp with rfl | hp; rw [hP]; exact custIx_ok; cases hp), (by rw [hP]; exact (calls_cons (Ends_s _ _ _ _ _ _ hc hs hp hp) calls_nil))⟩ [0, 0, 0, 0, 0, 30, 62, 127, 255] 7 rfl ?_ ?_; rotate_left 1)
  · repeat first | refine lwp_seq fun K hK => ?_ | ((with_reducible refine gA ?_); apply_assumption -exfalso -symm) | refine gB ?_ | refine gC ?_ | refine gD ?_ | refine gE ?_ | refine gF rfl ?_ | refine gG rfl ?_ | refine gH ?_ | refine gI ?_ | refine gJ ?_ | refine gK ?_ | refine gL ?_ | refine gM hC rfl ⟨⟩ ?_ | refine gM hC rfl (by exact sd) ?_
    (refine end_intro (by first | exact .inr rfl | exact .inl rfl) [] rfl ?_)
    exact sd
  · exact sd

def BMap_i (m s : List Th) (c : Cs) (l : List (Int × Int)) (σ : Ren) : Inst := { f := 128, hin := boxIn m s c ++ [(4, .ro l.length 2 (prC l))], args := [.sl 4 l.length, .fn 129 [] [.ptr 2 0 0 0, .ptr 3 0 0 0]], hout := [(5, .row 141 l.length 5 (stC (l.map (lastS s c))))], ret := .sl 5 l.length, σ := σ }
set_option maxRecDepth 20000 in
theorem BMap_s (m s : List Th) (c : Cs) (l : List (Int × Int)) (σ : Ren) (hc : csOk c) (hs : s.length ≤ 64) (hl : l.length ≤ 1000000) (hv : ∀ i, i < l.length → inS m s (prAt l i)) : (BMap_i m s c l σ).ok Tryz.prog := by
  unfold BMap_i Inst.ok; dsimp only; refine spec_of_body (tys := tys) 5 Tryz.func128 (by kernel_rfl) rfl tys_ok rfl (Nat.le_of_ble_eq_true rfl) (fun _ _ h => (by cases h)) fun F hP hm hC hrd => ?_; conv => whnf
  repeat first | refine lwp_seq fun K hK => ?_ | ((with_reducible refine gA ?_); apply_assumption -exfalso -symm) | refine gB ?_ | refine gC ?_ | refine gD ?_ | refine gE ?_ | refine gF rfl ?_ | refine gG rfl ?_ | refine gH ?_ | refine gI ?_ | refine gJ ?_ | refine gK ?_ | refine gL ?_ | refine gM hC rfl ⟨⟩ ?_ | refine gM hC rfl (by exact sd) ?_
  refine lwp_loop (fun k : Nat => ⟨[(10, i64 k), (9, i64 l.length), (8, .sl 4 l.length), (5, .sl 5 k), (1, .fn 129 [] [.ptr 2 0 0 0, .ptr 3 0 0 0])], [(5, .row 141 k 5 (stC ((l.map (lastS s c)).take k))), (0, .ro m.length 2 (thC m)), (1, .ro s.length 2 (thC s)), (2, .rb 38 [.sl 0 m.length, .sl 1 s.length]), (3, .rb 40 [i64 c.missed, i64 c.unseen, i64 c.stretch]), (4, .ro l.length 2 (prC l))], 6⟩) (fun k => k ≤ l.length) (fun k => l.length - k) 0 ⟨?_, sub_intro hm [(0, some 0), (1, some 1), (2, some 2), (3, some 3), (4, some 4), (5, none)] rfl ?_⟩ ?_
  · exact Nat.zero_le _
  · exact sd
  · rintro k hk
    have e1 : (k : Int).toNat = k := Int.toNat_natCast k
    repeat first | refine lwp_seq fun K hK => ?_ | ((with_reducible refine gA ?_); apply_assumption -exfalso -symm) | refine gB ?_ | refine gC ?_ | refine gD ?_ | refine gE ?_ | refine gF rfl ?_ | refine gG rfl ?_ | refine gH ?_ | refine gI ?_ | refine gJ ?_ | refine gK ?_ | refine gL ?_ | refine gM hC rfl ⟨⟩ ?_ | refine gM hC rfl (by exact sd) ?_
    (refine lwp_cond hC rfl (by first | exact ⟨⟩ | exact sd) (fun hb => ?_) (fun hb => ?_) <;> (try simp only [decide_eq_true_eq, decide_eq_false_iff_not, Bool.not_eq_true', Bool.not_eq_false', ne_eq, Decidable.not_not] at hb))
    · have hkl : k < l.length := by omega
      repeat first | refine lwp_seq fun K hK => ?_ | ((with_reducible refine gA ?_); apply_assumption -exfalso -symm) | refine gB ?_ | refine gC ?_ | refine gD ?_ | refine gE ?_ | refine gF rfl ?_ | refine gG rfl ?_ | refine gH ?_ | refine gI ?_ | refine gJ ?_ | refine gK ?_ | refine gL ?_ | refine gM hC rfl ⟨⟩ ?_ | refine gM hC rfl (by exact sd) ?_
      (refine lwp_region hC ⟨[], [], [(3, B1_i m s c (prAt l k) [(0, some 0), (1, some 1), (2, some 2), (3, some 3)])]⟩ (told1 _ (by rw [hP]; exact (calls_cons (B1_s _ _ _ _ _ hc hs (hv k hkl)) calls_nil))) rfl ?_ ?_; rotate_left 1)
      · repeat first | refine lwp_seq fun K hK => ?_ | ((with_reducible refine gA ?_); apply_assumption -exfalso -symm) | refine gB ?_ | refine gC ?_ | refine gD ?_ | refine gE ?_ | refine gF rfl ?_ | refine gG rfl ?_ | refine gH ?_ | refine gI ?_ | refine gJ ?_ | refine gK ?_ | refine gL ?_ | refine gM hC rfl ⟨⟩ ?_ | refine gM hC rfl (by exact sd) ?_
        refine gA ⟨k + 1, ?_, ?_, sub_intro hm [(0, some 0), (1, some 1), (2, some 2), (3, some 3), (4, some 4), (5, some 9)] rfl ?_⟩
        · omega
        · omega
        · have e := stC_snoc ((l.map (lastS s c)).take k) (lastS s c (prAt l k))
          rw [← map_at (lastS s c) (0, 0) stD l k hkl, ← take_snoc _ _ _ (by rw [List.length_map]; omega)] at e
          have e2 : (stC ((l.map (lastS s c)).take (k + 1))).cells = (catC (stC ((l.map (lastS s c)).take k)) (Cont.exp ((stV (lastS s c (prAt l k))).map AV.lit))).cells := by
            rw [catC_cells, e, map_at (lastS s c) (0, 0) stD l k hkl]; rfl
          exact sd
      · exact sd
    · repeat first | refine lwp_seq fun K hK => ?_ | ((with_reducible refine gA ?_); apply_assumption -exfalso -symm) | refine gB ?_ | refine gC ?_ | refine gD ?_ | refine gE ?_ | refine gF rfl ?_ | refine gG rfl ?_ | refine gH ?_ | refine gI ?_ | refine gJ ?_ | refine gK ?_ | refine gL ?_ | refine gM hC rfl ⟨⟩ ?_ | refine gM hC rfl (by exact sd) ?_
      (refine end_intro (by first | exact .inr rfl | exact .inl rfl) [(5, some 5)] rfl ?_)
      obtain rfl : k = l.length := by omega
      rw [List.take_of_length_le (by rw [List.length_map]; omega)]
      exact sd

end Go.Proofs.YtfmnfagcbehmdaaGreatDoor
