/- Chapter 5: a run registered by an alignment, the reference's. -/
import Derived.Test.YtoopgdchiljmiaaGreatDoorIo
import Derived.Test.YtoopgdchiljmiaaGreatDoorIr
import Derived.Test.YtoopgdchiljmiaaGreatDoorEj
set_option linter.unusedVariables false
set_option linter.unusedSimpArgs false
namespace Go.Proofs.YtoopgdchiljmiaaGreatDoor
open Go.RowKit Go.Sym

def gsS (m s : List Th) (l : List (Int × Int)) (n : Int) : Int := guessS m s n l (-1, -1)
theorem gs_bound {m s : List Th} {l : List (Int × Int)} (h : Good m s l) (h0 : 0 < l.length) {n : Int} (hn : 0 ≤ n ∧ n ≤ 100000000) : -100000000 ≤ gsS m s l n ∧ gsS m s l n ≤ 200000000 := by
  have c1 := cnt_bound h.ps (prAt l 0)
  have c2 := plc_bound h.pm (prAt l 0)
  have c3 := cnt_bound h.ps (prAt l (l.length - 1))
  have c4 := plc_bound h.pm (prAt l (l.length - 1))
  have m1 := guess_mono h h0 0 n.toNat
  have m2 := guess_mono h h0 n (100000000 - n).toNat
  rw [guess_first h0 (by omega), show 0 + (n.toNat : Int) = n by omega] at m1
  rw [show n + ((100000000 - n).toNat : Int) = 100000000 by omega, guess_at h (n := 100000000) (k := l.length - 1) (by omega) (by omega) (fun h1 => by omega), if_pos (by omega)] at m2
  unfold gsS
  omega
theorem gs_le {m s : List Th} {l : List (Int × Int)} (h : Good m s l) (h0 : 0 < l.length) {n n' : Int} (hn : n ≤ n') : gsS m s l n ≤ gsS m s l n' := by
  have := guess_mono h h0 n (n' - n).toNat
  rw [show n + ((n' - n).toNat : Int) = n' by omega] at this
  exact this
/-- The first and the last place of a run that is registered; at which places its samples are. -/
def frS (m s : List Th) (l : List (Int × Int)) (t : Rn) : Int := gsS m s l t.first
def toS (m s : List Th) (l : List (Int × Int)) (t : Rn) : Int := gsS m s l (t.first + t.smp.length - 1)
def gIx (m s : List Th) (l : List (Int × Int)) (t : Rn) (i : Nat) : Nat := (gsS m s l (t.first + i) - frS m s l t).toNat
def nIx (m s : List Th) (l : List (Int × Int)) (t : Rn) : Nat := (toS m s l t - frS m s l t + 1).toNat
def regA (m s : List Th) (l : List (Int × Int)) (t : Rn) (i : Nat) : List (Nat × Bool) := rgA t (gIx m s l t) (nIx m s l t) i
def cgE (m s : List Th) (l : List (Int × Int)) (t : Rn) : Int := firstS [withinS (frS m s l t) 0 99999999, withinS (toS m s l t) 0 99999999, whenS (decide (4096 ≤ toS m s l t - frS m s l t)) 5]
def cgS (m s : List Th) (l : List (Int × Int)) (t : Rn) : Int := if l.length = 0 then 12 else if t.smp.length = 0 then 16 else cgE m s l t
theorem cg_zero {m s : List Th} {l : List (Int × Int)} {t : Rn} (h : cgE m s l t = 0) : (0 ≤ frS m s l t ∧ frS m s l t ≤ 99999999) ∧ (0 ≤ toS m s l t ∧ toS m s l t ≤ 99999999) ∧ toS m s l t - frS m s l t < 4096 := by
  unfold cgE at h
  rw [firstS_cons, firstS_cons, firstS_cons, withinS_zero, withinS_zero, whenS_zero (by decide)] at h
  have := of_decide_eq_false h.2.2.1
  exact ⟨h.1, h.2.1, by omega⟩
/-- A run, an alignment, and places for it. -/
structure RgOk (m s : List Th) (l : List (Int × Int)) (t : Rn) : Prop where
  g : Good m s l
  h0 : 0 < l.length
  v : VR t
  n : 0 < t.smp.length
  e : t.first + (t.smp.length : Int) ≤ 100000000
theorem RgOk.fr {m s : List Th} {l : List (Int × Int)} {t : Rn} (h : RgOk m s l t) : (-100000000 ≤ frS m s l t ∧ frS m s l t ≤ 200000000) ∧ (-100000000 ≤ toS m s l t ∧ toS m s l t ≤ 200000000) ∧ frS m s l t ≤ toS m s l t := by
  have hv := h.v.f
  have hn := h.n
  have he := h.e
  exact ⟨gs_bound h.g h.h0 (by omega), gs_bound h.g h.h0 (by omega), gs_le h.g h.h0 (by omega)⟩
theorem RgOk.at {m s : List Th} {l : List (Int × Int)} {t : Rn} (h : RgOk m s l t) {i : Nat} (hi : i < t.smp.length) : frS m s l t ≤ gsS m s l (t.first + i) ∧ gsS m s l (t.first + i) ≤ toS m s l t :=
  ⟨gs_le h.g h.h0 (by omega), gs_le h.g h.h0 (by omega)⟩

def regIn (m s : List Th) (l : List (Int × Int)) (t : Rn) : List (Nat × Chunk) := [(0, .ro m.length 2 (thC m)), (1, .ro s.length 2 (thC s)), (2, .ro l.length 2 (prC l)), (3, .ro t.smp.length 1 (flC t.smp)), (4, .ro t.holes.length 2 (spC t.holes))]
def RCG_i (m s : List Th) (l : List (Int × Int)) (t : Rn) (σ : Ren) : Inst := { f := 44, hin := regIn m s l t, args := [rdA m s, .sl 2 l.length, rnA 3 4 t], hout := [], ret := i64 (cgS m s l t), σ := σ }
set_option maxRecDepth 20000 in
set_option maxHeartbeats 4000000 in
theorem RCG_s (m s : List Th) (l : List (Int × Int)) (t : Rn) (σ : Ren) (hg : Good m s l) (hv : VR t) (he : t.first + (t.smp.length : Int) ≤ 100000000) : (RCG_i m s l t σ).ok Tryz.prog := by
  have hf := hv.f
  unfold RCG_i Inst.ok; dsimp only; refine spec_of_body (tys := tys) 5 Tryz.func44 (by kernel_rfl) rfl tys_ok rfl (Nat.le_of_ble_eq_true rfl) (fun _ _ h => (by cases h)) fun F hP hm hC hrd => ?_; conv => whnf
  repeat first | refine lwp_seq fun K hK => ?_ | ((with_reducible refine gA ?_); apply_assumption -exfalso -symm) | refine gB ?_ | refine gC ?_ | refine gD ?_ | refine gE ?_ | refine gF rfl ?_ | refine gG rfl ?_ | refine gH ?_ | refine gI ?_ | refine gJ ?_ | refine gK ?_ | refine gL ?_ | refine lwp_region hC ⟨[], [], []⟩ (told0 _ _) rfl ⟨⟩ ?_
  (refine lwp_cond hC rfl (by first | exact ⟨⟩ | exact sd) (fun hb => ?_) (fun hb => ?_) <;> (try simp only [decide_eq_true_eq, decide_eq_false_iff_not, Bool.not_eq_true', Bool.not_eq_false', ne_eq, Decidable.not_not] at hb))
  · have h0 : l.length = 0 := by omega
    have hE : cgS m s l t = 12 := if_pos h0
    repeat first | refine lwp_seq fun K hK => ?_ | ((with_reducible refine gA ?_); apply_assumption -exfalso -symm) | refine gB ?_ | refine gC ?_ | refine gD ?_ | refine gE ?_ | refine gF rfl ?_ | refine gG rfl ?_ | refine gH ?_ | refine gI ?_ | refine gJ ?_ | refine gK ?_ | refine gL ?_ | refine lwp_region hC ⟨[], [], []⟩ (told0 _ _) rfl ⟨⟩ ?_
    (refine end_intro (by first | exact .inr rfl | exact .inl rfl) [] rfl ?_)
    rw [hE]
    exact ⟨rfl, trivial⟩
  · have h0 : ¬ l.length = 0 := by omega
    clear hb
    repeat first | refine lwp_seq fun K hK => ?_ | ((with_reducible refine gA ?_); apply_assumption -exfalso -symm) | refine gB ?_ | refine gC ?_ | refine gD ?_ | refine gE ?_ | refine gF rfl ?_ | refine gG rfl ?_ | refine gH ?_ | refine gI ?_ | refine gJ ?_ | refine gK ?_ | refine gL ?_ | refine lwp_region hC ⟨[], [], []⟩ (told0 _ _) rfl ⟨⟩ ?_
    (refine lwp_cond hC rfl (by first | exact ⟨⟩ | exact sd) (fun hb => ?_) (fun hb => ?_) <;> (try simp only [decide_eq_true_eq, decide_eq_false_iff_not, Bool.not_eq_true', Bool.not_eq_false', ne_eq, Decidable.not_not] at hb))
    · have h1 : t.smp.length = 0 := by omega
      have hE : cgS m s l t = 16 := (if_neg h0).trans (if_pos h1)
      repeat first | refine lwp_seq fun K hK => ?_ | ((with_reducible refine gA ?_); apply_assumption -exfalso -symm) | refine gB ?_ | refine gC ?_ | refine gD ?_ | refine gE ?_ | refine gF rfl ?_ | refine gG rfl ?_ | refine gH ?_ | refine gI ?_ | refine gJ ?_ | refine gK ?_ | refine gL ?_ | refine lwp_region hC ⟨[], [], []⟩ (told0 _ _) rfl ⟨⟩ ?_
      (refine end_intro (by first | exact .inr rfl | exact .inl rfl) [] rfl ?_)
      rw [hE]
      exact ⟨rfl, trivial⟩
    · have h1 : ¬ t.smp.length = 0 := by omega
      have hE : cgS m s l t = cgE m s l t := (if_neg h0).trans (if_neg h1)
      have hr : RgOk m s l t := ⟨hg, by omega, hv, by omega, he⟩
      have hb1 := hr.fr
      clear hb
      repeat first | refine lwp_seq fun K hK => ?_ | ((with_reducible refine gA ?_); apply_assumption -exfalso -symm) | refine gB ?_ | refine gC ?_ | refine gD ?_ | refine gE ?_ | refine gF rfl ?_ | refine gG rfl ?_ | refine gH ?_ | refine gI ?_ | refine gJ ?_ | refine gK ?_ | refine gL ?_ | refine lwp_region hC ⟨[], [], []⟩ (told0 _ _) rfl ⟨⟩ ?_
      (refine lwp_drawn hC (by rw [hP]; exact mixed) ⟨[], [], [(4, RGuess_i m s t.first l [(0, some 0), (1, some 1), (2, some 2)]), (12, RGuess_i m s (t.first + t.smp.length - 1) l [(0, some 0), (1, some 1), (2, some 2)])]⟩ (told1 _ (by rw [hP]; exact (calls_cons (RGuess_s _ _ _ _ _ hg (by omega) (by omega)) (calls_cons (RGuess_s _ _ _ _ _ hg (by omega) (by omega)) calls_nil)))) [0, 0, 0, 4, 15, 0, 0, 0, 128, 0, 896, 1920, 4095, 8191, 16383] 12 rfl ?_ ?_; rotate_left 1)
      · rw [show guessS m s t.first l (-1, -1) = frS m s l t from rfl, show guessS m s (t.first + t.smp.length - 1) l (-1, -1) = toS m s l t from rfl]
        repeat first | refine lwp_seq fun K hK => ?_ | ((with_reducible refine gA ?_); apply_assumption -exfalso -symm) | refine gB ?_ | refine gC ?_ | refine gD ?_ | refine gE ?_ | refine gF rfl ?_ | refine gG rfl ?_ | refine gH ?_ | refine gI ?_ | refine gJ ?_ | refine gK ?_ | refine gL ?_ | refine lwp_region hC ⟨[], [], []⟩ (told0 _ _) rfl ⟨⟩ ?_
        (refine lwp_region hC ⟨[], [], [(1, CheckRange_i (frS m s l t) 0 99999999), (3, CheckRange_i (toS m s l t) 0 99999999), (8, When_i (decide (4096 ≤ toS m s l t - frS m s l t)) 5), (10, First_i [withinS (frS m s l t) 0 99999999, withinS (toS m s l t) 0 99999999, whenS (decide (4096 ≤ toS m s l t - frS m s l t)) 5] [(0, some 7)])]⟩ (told1 _ (by rw [hP]; exact (calls_cons (CheckRange_s _ _ _) (calls_cons (CheckRange_s _ _ _) (calls_cons (When_s _ _) (calls_cons (First_s _ _ (by simp)) calls_nil)))))) rfl ?_ ?_; rotate_left 1)
        · repeat first | refine lwp_seq fun K hK => ?_ | ((with_reducible refine gA ?_); apply_assumption -exfalso -symm) | refine gB ?_ | refine gC ?_ | refine gD ?_ | refine gE ?_ | refine gF rfl ?_ | refine gG rfl ?_ | refine gH ?_ | refine gI ?_ | refine gJ ?_ | refine gK ?_ | refine gL ?_ | refine lwp_region hC ⟨[], [], []⟩ (told0 _ _) rfl ⟨⟩ ?_
          (refine end_intro (by first | exact .inr rfl | exact .inl rfl) [] rfl ?_)
          rw [hE]
          exact ⟨rfl, trivial⟩
        · exact sd
      · exact sd

theorem set_map {α β : Type} (f : α → β) (l : List α) (k : Nat) (x : α) : (l.set k x).map f = (l.map f).set k (f x) := List.map_set ..
theorem rep_map {α β : Type} (f : α → β) (n : Nat) (x : α) : (List.replicate n x).map f = List.replicate n (f x) := List.map_replicate ..
def RReg_i (m s : List Th) (l : List (Int × Int)) (t : Rn) (σ : Ren) : Inst := { f := 45, hin := regIn m s l t, args := [rdA m s, .sl 2 l.length, rnA 3 4 t], hout := [(5, .row 134 (mdB t.name (frS m s l t) (regA m s l t t.smp.length)).smp.length 1 (flC (mdB t.name (frS m s l t) (regA m s l t t.smp.length)).smp)), (6, .row 168 (mdB t.name (frS m s l t) (regA m s l t t.smp.length)).holes.length 2 (spC (mdB t.name (frS m s l t) (regA m s l t t.smp.length)).holes))], ret := rnA 5 6 (mdB t.name (frS m s l t) (regA m s l t t.smp.length)), σ := σ }
set_option maxRecDepth 20000 in
set_option maxHeartbeats 8000000 in
theorem RReg_s (m s : List Th) (l : List (Int × Int)) (t : Rn) (σ : Ren) (hr : RgOk m s l t) (hz : cgE m s l t = 0) : (RReg_i m s l t σ).ok Tryz.prog := by
  have hf := hr.v.f
  have hn0 := hr.n
  have he := hr.e
  have hg := hr.g
  have h0 := hr.h0
  have hnn := hr.v.n
  obtain ⟨z1, z2, z3⟩ := cg_zero hz
  have hft := hr.fr.2.2
  have hN : (nIx m s l t : Int) = toS m s l t - frS m s l t + 1 := by unfold nIx; omega
  have hNn : (toS m s l t - frS m s l t + 1).toNat = nIx m s l t := rfl
  generalize hNN : nIx m s l t = nn at hN hNn
  unfold RReg_i Inst.ok; dsimp only; refine spec_of_body (tys := tys) 5 Tryz.func45 (by kernel_rfl) rfl tys_ok rfl (Nat.le_of_ble_eq_true rfl) (fun _ _ h => (by cases h)) fun F hP hm hC hrd => ?_; conv => whnf
  repeat first | refine lwp_seq fun K hK => ?_ | ((with_reducible refine gA ?_); apply_assumption -exfalso -symm) | refine gB ?_ | refine gC ?_ | refine gD ?_ | refine gE ?_ | refine gF rfl ?_ | refine gG rfl ?_ | refine gH ?_ | refine gI ?_ | refine gJ ?_ | refine gK ?_ | refine gL ?_ | refine lwp_region hC ⟨[], [], []⟩ (told0 _ _) rfl ⟨⟩ ?_
  (refine lwp_drawn hC (by rw [hP]; exact mixed) ⟨[], [], [(4, RGuess_i m s t.first l [(0, some 0), (1, some 1), (2, some 2)]), (12, RGuess_i m s (t.first + t.smp.length - 1) l [(0, some 0), (1, some 1), (2, some 2)])]⟩ (told1 _ (by rw [hP]; exact (calls_cons (RGuess_s _ _ _ _ _ hg (by omega) (by omega)) (calls_cons (RGuess_s _ _ _ _ _ hg (by omega) (by omega)) calls_nil)))) [0, 0, 0, 4, 15, 0, 0, 0, 128, 0, 896, 1920, 4095, 8191, 16383] 12 rfl ?_ ?_; rotate_left 1)
  · rw [show guessS m s t.first l (-1, -1) = frS m s l t from rfl, show guessS m s (t.first + t.smp.length - 1) l (-1, -1) = toS m s l t from rfl]
    repeat first | refine lwp_seq fun K hK => ?_ | ((with_reducible refine gA ?_); apply_assumption -exfalso -symm) | refine gB ?_ | refine gC ?_ | refine gD ?_ | refine gE ?_ | refine gF rfl ?_ | refine gG rfl ?_ | refine gH ?_ | refine gI ?_ | refine gJ ?_ | refine gK ?_ | refine gL ?_ | refine lwp_region hC ⟨[], [], []⟩ (told0 _ _) rfl ⟨⟩ ?_
    (refine lwp_drawn hC (by rw [hP]; exact mixed) ⟨[], [], []⟩ (told0 _ _) [0, 0, 3, 7, 15, 0, 0, 96, 224, 480, 31, 2047] 11 rfl ?_ ?_; rotate_left 1)
    · repeat first | refine lwp_seq fun K hK => ?_ | ((with_reducible refine gA ?_); apply_assumption -exfalso -symm) | refine gB ?_ | refine gC ?_ | refine gD ?_ | refine gE ?_ | refine gF rfl ?_ | refine gG rfl ?_ | refine gH ?_ | refine gI ?_ | refine gJ ?_ | refine gK ?_ | refine gL ?_ | refine lwp_region hC ⟨[], [], []⟩ (told0 _ _) rfl ⟨⟩ ?_
      rw [hNn]
      refine lwp_loop (fun i : Nat => ⟨[(12, i64 i), (7, i64 t.smp.length), (8, i64 (frS m s l t)), (10, .sl 8 nn), (11, .sl 9 nn), (1, .sl 2 l.length), (3, .ptr 5 0 0 0), (5, .ptr 6 0 0 0), (6, .ptr 7 0 0 0)], [(9, .row 4 nn 1 (.bools ((regA m s l t i).map (·.2)))), (8, .row 3 nn 1 (.ints .i64 ((regA m s l t i).map lvP))), (7, .blk 69 [.lit (.string ⟨#[]⟩), i64 0, .lit (.slice none 0 0), .lit (.slice none 0 0)]), (6, .blk 69 [.lit (.string t.name), i64 t.first, .sl 3 t.smp.length, .sl 4 t.holes.length]), (5, .blk 25 [.sl 0 m.length, .sl 1 s.length]), (0, .ro m.length 2 (thC m)), (1, .ro s.length 2 (thC s)), (2, .ro l.length 2 (prC l)), (3, .ro t.smp.length 1 (flC t.smp)), (4, .ro t.holes.length 2 (spC t.holes))], 10⟩) (fun i => i ≤ t.smp.length) (fun i => t.smp.length - i) 0 ⟨?_, sub_intro hm [(0, some 0), (1, some 1), (2, some 2), (3, some 3), (4, some 4), (5, some 5), (6, some 6), (7, some 7), (8, some 8), (9, some 9)] rfl ?_⟩ ?_
      · exact Nat.zero_le _
      · have e1 : List.map lvP (regA m s l t 0) = List.replicate nn 0 := by unfold regA rgA; rw [hNN]; exact rep_map _ _ _
        have e2 : List.map (fun x => x.2) (regA m s l t 0) = List.replicate nn false := by unfold regA rgA; rw [hNN]; exact rep_map _ _ _
        rw [e1, e2]
        exact sd
      · rintro i hi
        have ei : (i : Int).toNat = i := Int.toNat_natCast i
        have hlen : (regA m s l t i).length = nn := by unfold regA; rw [rgA_len, hNN]
        have hst : regA m s l t (i + 1) = if knownB t.holes i = true then (regA m s l t i).set (gIx m s l t i) (t.smp.getD i 0, true) else regA m s l t i := rfl
        have hok := rgA_ok hr.v.p (gIx m s l t) (nIx m s l t) i hi
        have hend : i = t.smp.length → regA m s l t t.smp.length = regA m s l t i := fun h => by rw [h]
        rw [show rgA t (gIx m s l t) (nIx m s l t) i = regA m s l t i from rfl] at hok
        generalize regA m s l t i = A at hlen hst hok hend ⊢
        repeat first | refine lwp_seq fun K hK => ?_ | ((with_reducible refine gA ?_); apply_assumption -exfalso -symm) | refine gB ?_ | refine gC ?_ | refine gD ?_ | refine gE ?_ | refine gF rfl ?_ | refine gG rfl ?_ | refine gH ?_ | refine gI ?_ | refine gJ ?_ | refine gK ?_ | refine gL ?_ | refine lwp_region hC ⟨[], [], []⟩ (told0 _ _) rfl ⟨⟩ ?_
        (refine lwp_cond hC rfl (by first | exact ⟨⟩ | exact sd) (fun hb => ?_) (fun hb => ?_) <;> (try simp only [decide_eq_true_eq, decide_eq_false_iff_not, Bool.not_eq_true', Bool.not_eq_false', ne_eq, Decidable.not_not] at hb))
        · have hil : i < t.smp.length := by omega
          clear hb hend hok
          have hat := hr.at hil
          have hgi : (gIx m s l t i : Int) = gsS m s l (t.first + i) - frS m s l t := by unfold gIx; omega
          have hgn : (gsS m s l (t.first + i) - frS m s l t).toNat = gIx m s l t i := rfl
          have hgk : gIx m s l t i < nn := by omega
          have hp := hr.v.p _ (mem_getD hil)
          repeat first | refine lwp_seq fun K hK => ?_ | ((with_reducible refine gA ?_); apply_assumption -exfalso -symm) | refine gB ?_ | refine gC ?_ | refine gD ?_ | refine gE ?_ | refine gF rfl ?_ | refine gG rfl ?_ | refine gH ?_ | refine gI ?_ | refine gJ ?_ | refine gK ?_ | refine gL ?_ | refine lwp_region hC ⟨[], [], []⟩ (told0 _ _) rfl ⟨⟩ ?_
          (refine lwp_region hC ⟨[], [], [(2, RIsKnown_i t i [(0, some 3), (1, some 4)])]⟩ (told1 _ (by rw [hP]; exact (calls_cons (RIsKnown_s _ _ _ hr.v.h) calls_nil))) rfl ?_ ?_; rotate_left 1)
          · repeat first | refine lwp_seq fun K hK => ?_ | ((with_reducible refine gA ?_); apply_assumption -exfalso -symm) | refine gB ?_ | refine gC ?_ | refine gD ?_ | refine gE ?_ | refine gF rfl ?_ | refine gG rfl ?_ | refine gH ?_ | refine gI ?_ | refine gJ ?_ | refine gK ?_ | refine gL ?_ | refine lwp_region hC ⟨[], [], []⟩ (told0 _ _) rfl ⟨⟩ ?_
            (refine lwp_cond hC rfl (by first | exact ⟨⟩ | exact sd) (fun hb => ?_) (fun hb => ?_) <;> (try simp only [decide_eq_true_eq, decide_eq_false_iff_not, Bool.not_eq_true', Bool.not_eq_false', ne_eq, Decidable.not_not] at hb))
            · rw [if_pos hb] at hst
              clear hb
              have s1 : (A.set (gIx m s l t i) (t.smp.getD i 0, true)).map lvP = (A.map lvP).set (gIx m s l t i) (cutW (x16 (t.smp.getD i 0))) := set_map _ _ _ _
              have s2 : (A.set (gIx m s l t i) (t.smp.getD i 0, true)).map (fun x => x.2) = (A.map (fun x => x.2)).set (gIx m s l t i) true := set_map _ _ _ _
              repeat first | refine lwp_seq fun K hK => ?_ | ((with_reducible refine gA ?_); apply_assumption -exfalso -symm) | refine gB ?_ | refine gC ?_ | refine gD ?_ | refine gE ?_ | refine gF rfl ?_ | refine gG rfl ?_ | refine gH ?_ | refine gI ?_ | refine gJ ?_ | refine gK ?_ | refine gL ?_ | refine lwp_region hC ⟨[], [], []⟩ (told0 _ _) rfl ⟨⟩ ?_
              (refine lwp_region hC ⟨[], [], [(6, RGuess_i m s (t.first + i) l [(0, some 0), (1, some 1), (2, some 2)])]⟩ (told1 _ (by rw [hP]; exact (calls_cons (RGuess_s _ _ _ _ _ hg (by omega) (by omega)) calls_nil))) rfl ?_ ?_; rotate_left 1)
              · rw [show guessS m s (t.first + i) l (-1, -1) = gsS m s l (t.first + i) from rfl]
                repeat first | refine lwp_seq fun K hK => ?_ | ((with_reducible refine gA ?_); apply_assumption -exfalso -symm) | refine gB ?_ | refine gC ?_ | refine gD ?_ | refine gE ?_ | refine gF rfl ?_ | refine gG rfl ?_ | refine gH ?_ | refine gI ?_ | refine gJ ?_ | refine gK ?_ | refine gL ?_ | refine lwp_region hC ⟨[], [], []⟩ (told0 _ _) rfl ⟨⟩ ?_
                (refine lwp_region hC ⟨[], [], [(9, RCut_i (t.smp.getD i 0))]⟩ (told1 _ (by rw [hP]; exact (calls_cons (RCut_s _ hp) calls_nil))) rfl ?_ ?_; rotate_left 1)
                · rw [hgn]
                  repeat first | refine lwp_seq fun K hK => ?_ | ((with_reducible refine gA ?_); apply_assumption -exfalso -symm) | refine gB ?_ | refine gC ?_ | refine gD ?_ | refine gE ?_ | refine gF rfl ?_ | refine gG rfl ?_ | refine gH ?_ | refine gI ?_ | refine gJ ?_ | refine gK ?_ | refine gL ?_ | refine lwp_region hC ⟨[], [], []⟩ (told0 _ _) rfl ⟨⟩ ?_ | refine lwp_region hC ⟨[], [], []⟩ (told0 _ _) rfl (by exact sd) ?_
                  refine gA ⟨i + 1, ?_, ?_, sub_intro hm [(0, some 0), (1, some 1), (2, some 2), (3, some 3), (4, some 4), (5, some 5), (6, some 6), (7, some 7), (8, some 8), (9, some 9)] rfl ?_⟩
                  · omega
                  · omega
                  · rw [hst, s1, s2]
                    exact sd
                · rw [ei]
                  exact sd
              · rw [show guessS m s (t.first + i) l (-1, -1) = gsS m s l (t.first + i) from rfl]
                exact sd
            · rw [if_neg (by rw [hb]; decide)] at hst
              repeat first | refine lwp_seq fun K hK => ?_ | ((with_reducible refine gA ?_); apply_assumption -exfalso -symm) | refine gB ?_ | refine gC ?_ | refine gD ?_ | refine gE ?_ | refine gF rfl ?_ | refine gG rfl ?_ | refine gH ?_ | refine gI ?_ | refine gJ ?_ | refine gK ?_ | refine gL ?_ | refine lwp_region hC ⟨[], [], []⟩ (told0 _ _) rfl ⟨⟩ ?_ | refine lwp_region hC ⟨[], [], []⟩ (told0 _ _) rfl (by exact sd) ?_
              refine gA ⟨i + 1, ?_, ?_, sub_intro hm [(0, some 0), (1, some 1), (2, some 2), (3, some 3), (4, some 4), (5, some 5), (6, some 6), (7, some 7), (8, some 8), (9, some 9)] rfl ?_⟩
              · omega
              · omega
              · rw [hst]
                exact sd
          · exact sd
        · have hend := hend (by omega)
          have hl2 : (A.map lvP).length = nn := by rw [List.length_map, hlen]
          have q1 : ∀ j, j < (A.map lvP).length → (A.map fun x => x.2).getD j false = true → FloatKind.f32.format.div (FloatKind.f32.nearest ((A.map lvP).getD j 0)) 1098907648 = some ((A.map bkP).getD j 0) := by
            intro j hj hk
            rw [List.length_map] at hj
            have hpj := hok _ (List.getElem_mem hj)
            rw [map_at (fun x : Nat × Bool => x.2) (0, false) false A j hj] at hk
            rw [map_at lvP (0, false) 0 A j hj, map_at bkP (0, false) 0 A j hj]
            rw [List.getD_eq_getElem?_getD, List.getElem?_eq_getElem hj, Option.getD_some] at hk ⊢
            unfold lvP bkP
            rw [if_pos hk, if_pos hk]
            exact (samp_back (hpj.1 hk)).1
          have q2 : ∀ j, j < (A.map lvP).length → (A.map fun x => x.2).getD j false = false → (A.map bkP).getD j 0 = 0 := by
            intro j hj hk
            rw [List.length_map] at hj
            rw [map_at (fun x : Nat × Bool => x.2) (0, false) false A j hj] at hk
            rw [map_at bkP (0, false) 0 A j hj]
            unfold bkP
            rw [if_neg (by rw [hk]; decide)]
          repeat first | refine lwp_seq fun K hK => ?_ | ((with_reducible refine gA ?_); apply_assumption -exfalso -symm) | refine gB ?_ | refine gC ?_ | refine gD ?_ | refine gE ?_ | refine gF rfl ?_ | refine gG rfl ?_ | refine gH ?_ | refine gI ?_ | refine gJ ?_ | refine gK ?_ | refine gL ?_ | refine lwp_region hC ⟨[], [], []⟩ (told0 _ _) rfl ⟨⟩ ?_
          (refine lwp_region hC ⟨[], [], [(5, Made_i t.name (frS m s l t) (A.map lvP) (A.map fun x => x.2) (A.map bkP) [(0, some 8), (1, some 9)])]⟩ (told1 _ (by rw [hP]; exact (calls_cons (Made_s _ _ _ _ _ _ (by omega) (by rw [List.length_map, List.length_map]) (by rw [List.length_map, List.length_map]) q1 q2) calls_nil))) rfl ?_ ?_; rotate_left 1)
          · repeat first | refine lwp_seq fun K hK => ?_ | ((with_reducible refine gA ?_); apply_assumption -exfalso -symm) | refine gB ?_ | refine gC ?_ | refine gD ?_ | refine gE ?_ | refine gF rfl ?_ | refine gG rfl ?_ | refine gH ?_ | refine gI ?_ | refine gJ ?_ | refine gK ?_ | refine gL ?_ | refine lwp_region hC ⟨[], [], []⟩ (told0 _ _) rfl ⟨⟩ ?_
            rw [hend]
            unfold mdB
            (refine end_intro (by first | exact .inr rfl | exact .inl rfl) [(5, some 10), (6, some 11)] rfl ?_)
            simp only [All, cd_p, cp_p, cv_p, List.length_map]
            (repeat' refine And.intro ?_ ?_) <;> first | trivial | rfl
          · simp only [AllL, All, cd_p, cp_p, cv_p, List.length_map, hlen]
            (repeat' refine And.intro ?_ ?_) <;> first | trivial | rfl
    · exact sd
  · exact sd

end Go.Proofs.YtoopgdchiljmiaaGreatDoor
