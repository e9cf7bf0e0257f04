/- Contracts of the program: readings.versines, Again. -/
import Derived.Test.YtbpffadffbgloaaGreatDoorTd
import Derived.Test.YtbpffadffbgloaaGreatDoorTg
import Derived.Scope
set_option linter.unusedVariables false
set_option linter.unusedSimpArgs false
namespace Go.Proofs.YtbpffadffbgloaaGreatDoor
open Go.RowKit Go.Shelf Go.Sym

/-- A scope through which the run goes without a jump. -/
def noGotoS (Q : Exit → St → Prop) : Exit → St → Prop
  | .goto _, _ => False
  | e, s => Q e s
theorem lwp_scope {F : Frm} {c : Code} {Q : Exit → St → Prop} {s : St} (h : LWP F c (noGotoS Q) s) : LWP F (.scope c) Q s := ⟨fun ρ a w hs =>
  wp_scope_straight (wp_mono (h.out ρ a w hs) fun e a' w' ⟨s', ρ', h1, h2⟩ => by
    cases e with
    | goto l => exact h1
    | normal => exact ⟨s', ρ', h1, h2⟩
    | exit id => exact ⟨s', ρ', h1, h2⟩
    | ret => exact ⟨s', ρ', h1, h2⟩
    | panic c => exact ⟨s', ρ', h1, h2⟩
    | outgrown => exact ⟨s', ρ', h1, h2⟩)⟩
theorem noGotoS_ret {Q : Exit → St → Prop} {s : St} (h : Q .ret s) : noGotoS Q .ret s := h

def PRdVersines_i (b a : Int) (t : Tr) (σ : Sym.Ren) : Inst := { f := 80, hin := [(0, .ro t.vals.length 1 (.ints .i64 t.vals)), (1, .ro t.holes.length 2 (spC t.holes)), (2, .ro t.vals.length 1 (.bools (knS t.vals.length t.holes)))], args := [.agg [i64 t.first, .sl 0 t.vals.length, .sl 1 t.holes.length, .sl 2 t.vals.length], .agg [i64 b, i64 a]], hout := trO 3 (RVersinesS b a t), ret := trR 3 (RVersinesS b a t), σ := σ }
theorem PRdVersines_s (b a : Int) (t : Tr) (σ : Sym.Ren) (hok : TrOk t) (b0 : 1 ≤ b) (b1 : b ≤ 32) (a0 : 1 ≤ a) (a1 : a ≤ 32) : (PRdVersines_i b a t σ).ok Tryz.prog := by
  refine ⟨⟨_, Tryz.func80, rfl⟩, fun ρ w vs hdom _ hh hd => ?_⟩
  obtain ⟨L1, L2, p1, p2, hr⟩ := tr_args (i := 0) (j := 1) hh rfl rfl
  obtain ⟨L3, p3, hk⟩ := rd_of_ro (vs := bools (knS t.vals.length t.holes)) (hh.holds 2 _ rfl) (by simp [Cont.cells, bools]) (by decide)
  simp only [PRdVersines_i, AV.denL, AV.den, p1, p2, p3, Option.map_some, listO, Option.some.injEq] at hd
  subst hd
  have hk2 : Rd w w.heap.size 1 (.slice L3.ad t.vals.length L3.cap) (knS t.vals.length t.holes).length (bools (knS t.vals.length t.holes)) := by rw [knS_len]; exact hk
  have h := versines_c t.first b a _ (.slice L2.ad t.holes.length L2.cap) _ t.vals (knS t.vals.length t.holes) w b0 b1 a0 a1 hr.1 hk2 (knS_len _ _) hok.f0 hok.f1 hok.len hok.val
  rw [versines_same b a t b0 a0] at h
  exact h.mono fun e w' h => post_of_tr hdom rfl rfl h

theorem made_holes (f : Int) (l : List (Int × Bool)) : HolesOk (madeS f l).1.vals.length (madeS f l).1.holes := by
  unfold madeS
  split
  · intro p hp; cases hp
  · dsimp only
    rw [(addAll_len l).1]
    exact (addAll_inv l).1
theorem summed_holes (f : Int) (vs : List (Int × Bool)) (ws : List Int) (b a s : Int) : HolesOk (summedS f vs ws b a s).1.vals.length (summedS f vs ws b a s).1.holes := by
  unfold summedS
  split
  · intro p hp; cases hp
  · exact made_holes _ _

/-- One place of readings that are said and measured. -/
def saysP (v r : Tr) (i : Nat) : Bool := !(knownB v.holes i && knownB r.holes i) || decide (v.vals.getD i 0 = r.vals.getD i 0)
def saysB (v r : Tr) : Bool := (List.range v.vals.length).all (saysP v r)
theorem saysB_false {v r : Tr} {i : Nat} (hi : i < v.vals.length) (h : saysP v r i = false) : saysB v r = false := by
  rw [Bool.eq_false_iff]
  intro e
  have := List.all_eq_true.1 e i (List.mem_range.2 hi)
  rw [h] at this; cases this
theorem saysB_true {v r : Tr} (h : ∀ i : Nat, i < v.vals.length → saysP v r i = true) : saysB v r = true :=
  List.all_eq_true.2 fun i hi => h i (List.mem_range.1 hi)
/-- The versines of heights, and readings. -/
def againR (b a : Int) (h r : Tr) : Bool × Int :=
  if (RVersinesS b a h).2 ≠ 0 then (false, (RVersinesS b a h).2) else if alikeS (RVersinesS b a h).1 r = false then (false, 2) else (saysB (RVersinesS b a h).1 r, 0)
def AgainS (b a : Int) (h r : Tr) : Bool × Int :=
  if firstS [chordS b a, traceS h, traceS r] ≠ 0 then (false, firstS [chordS b a, traceS h, traceS r]) else againR b a h r
theorem RVers_len (b a : Int) (t : Tr) (hb : 0 ≤ b) (ha : 0 ≤ a) : (RVersinesS b a t).1.vals.length ≤ t.vals.length ∧ (RVersinesS b a t).1.holes.length ≤ t.vals.length := by
  show (summedS t.first (valuesS t.vals t.holes) (versW b a) b a 1).1.vals.length ≤ _ ∧ (summedS t.first (valuesS t.vals t.holes) (versW b a) b a 1).1.holes.length ≤ _
  unfold summedS
  split
  · simp
  · unfold madeS
    split
    · simp
    · have h1 := addAll_len (summedL (valuesS t.vals t.holes) (versW b a) b a 1)
      have h2 : (summedL (valuesS t.vals t.holes) (versW b a) b a 1).length ≤ t.vals.length := by
        unfold summedL; rw [List.length_map, List.length_range, valuesS_len]; omega
      dsimp only
      omega

def PAgain_i (b a : Int) (h r : Tr) (σ : Sym.Ren) : Inst := { f := 23, hin := hin4 h r, args := [.agg [i64 b, i64 a], trA 0 1 h, trA 2 3 r], hout := [], ret := .tup [bl (AgainS b a h r).1, i64 (AgainS b a h r).2], σ := σ }
set_option maxRecDepth 20000 in
set_option maxHeartbeats 4000000 in
theorem PAgain_s (b a : Int) (h r : Tr) (σ : Sym.Ren) : (PAgain_i b a h r σ).ok Tryz.prog := by
  unfold PAgain_i Inst.ok; dsimp only; refine spec_of_body (tys := tys) 4 Tryz.func23 (by kernel_rfl) rfl tys_ok rfl (Nat.le_of_ble_eq_true rfl) (fun _ _ h => (by cases h)) fun F hP hm hC => ?_; conv => whnf
  (repeat (first | (refine lwp_seq fun K hK => ?_) | (refine thenS_normal ?_; apply_assumption -exfalso -symm) | (refine thenS_exit ?_) | (refine thenS_ret ?_) | (refine inBlockS_normal ?_) | (refine inBlockS_ret ?_) | (refine inBlockS_hit rfl ?_) | (refine inBlockS_miss rfl ?_) | (refine lwp_block ?_) | (refine lwp_skip ?_) | (refine lwp_exit ?_) | (refine lwp_ret ?_) | (refine lwp_label ?_) | (refine lwp_region hC ⟨[], [], []⟩ (told0 _ _) rfl True.intro ?_) | (refine lwp_region hC ⟨[], [], []⟩ (told0 _ _) rfl (by ((try simp only [AllL, All, cd_p, cp_p, cv_p, InK, and_true, true_and]); all_goals ((repeat' (first | refine And.intro ?_ ?_ | intro _)) <;> first | omega | exact True.intro | assumption | (simp; done) | rfl | (simp_all; done) | (simp_all; omega)))) ?_)))
  refine lwp_scope ?_
  (repeat (first | (refine lwp_seq fun K hK => ?_) | (refine thenS_normal ?_; apply_assumption -exfalso -symm) | (refine thenS_exit ?_) | (refine thenS_ret ?_) | (refine inBlockS_normal ?_) | (refine inBlockS_ret ?_) | (refine inBlockS_hit rfl ?_) | (refine inBlockS_miss rfl ?_) | (refine lwp_block ?_) | (refine lwp_skip ?_) | (refine lwp_exit ?_) | (refine lwp_ret ?_) | (refine lwp_label ?_) | (refine lwp_region hC ⟨[], [], []⟩ (told0 _ _) rfl True.intro ?_) | (refine lwp_region hC ⟨[], [], []⟩ (told0 _ _) rfl (by ((try simp only [AllL, All, cd_p, cp_p, cv_p, InK, and_true, true_and]); all_goals ((repeat' (first | refine And.intro ?_ ?_ | intro _)) <;> first | omega | exact True.intro | assumption | (simp; done) | rfl | (simp_all; done) | (simp_all; omega)))) ?_)))
  (refine lwp_drawn hC (by rw [hP]; exact mixed) ⟨[], [], [(1, PCheckChord_i b a), (3, PCheckTrace_i h [(0, some 0), (1, some 1)]), (5, PCheckTrace_i r [(0, some 2), (1, some 3)]), (7, PFirst_i [chordS b a, traceS h, traceS r] [(0, some 7)])]⟩ (told1 _ (by rw [hP]; exact (calls_cons (PCheckChord_s _ _) (calls_cons (PCheckTrace_s _ _) (calls_cons (PCheckTrace_s _ _) (calls_cons (PFirst_s _ _) calls_nil)))))) [0, 1, 0, 7, 0, 31, 63, 127, 255] 5 rfl ?_ ?_; rotate_left 1)
  · (repeat (first | (refine lwp_seq fun K hK => ?_) | (refine thenS_normal ?_; apply_assumption -exfalso -symm) | (refine thenS_exit ?_) | (refine thenS_ret ?_) | (refine inBlockS_normal ?_) | (refine inBlockS_ret ?_) | (refine inBlockS_hit rfl ?_) | (refine inBlockS_miss rfl ?_) | (refine lwp_block ?_) | (refine lwp_skip ?_) | (refine lwp_exit ?_) | (refine lwp_ret ?_) | (refine lwp_label ?_) | (refine lwp_region hC ⟨[], [], []⟩ (told0 _ _) rfl True.intro ?_) | (refine lwp_region hC ⟨[], [], []⟩ (told0 _ _) rfl (by ((try simp only [AllL, All, cd_p, cp_p, cv_p, InK, and_true, true_and]); all_goals ((repeat' (first | refine And.intro ?_ ?_ | intro _)) <;> first | omega | exact True.intro | assumption | (simp; done) | rfl | (simp_all; done) | (simp_all; omega)))) ?_)))
    by_cases h1 : firstS [chordS b a, traceS h, traceS r] = 0
    · have hRe : AgainS b a h r = againR b a h r := by unfold AgainS; rw [if_neg (by rw [h1]; decide)]
      have HRE := Lib.hid hRe
      clear hRe
      have hp : chordS b a = 0 ∧ traceS h = 0 ∧ traceS r = 0 := by rw [firstS_eq] at h1; simpa using h1
      have hco := chordS_ok hp.1
      have hokh := traceS_ok hp.2.1
      have hokr := traceS_ok hp.2.2
      have hl := hokh.len
      have rl := hokr.len
      (refine lwp_cond hC rfl (by first | exact True.intro | ((try simp only [AllL, All, cd_p, cp_p, cv_p, InK, and_true, true_and]); all_goals ((repeat' (first | refine And.intro ?_ ?_ | intro _)) <;> first | omega | exact True.intro | assumption | (simp; done) | rfl | (simp_all; done) | (simp_all; omega)))) (fun hb => ?_) (fun hb => ?_) <;> (try simp only [decide_eq_true_eq, decide_eq_false_iff_not, Bool.not_eq_true', Bool.not_eq_false', ne_eq, Decidable.not_not] at hb))
      · exact absurd h1 hb
      · clear hb
        (repeat (first | (refine lwp_seq fun K hK => ?_) | (refine thenS_normal ?_; apply_assumption -exfalso -symm) | (refine thenS_exit ?_) | (refine thenS_ret ?_) | (refine inBlockS_normal ?_) | (refine inBlockS_ret ?_) | (refine inBlockS_hit rfl ?_) | (refine inBlockS_miss rfl ?_) | (refine lwp_block ?_) | (refine lwp_skip ?_) | (refine lwp_exit ?_) | (refine lwp_ret ?_) | (refine lwp_label ?_) | (refine lwp_region hC ⟨[], [], []⟩ (told0 _ _) rfl True.intro ?_) | (refine lwp_region hC ⟨[], [], []⟩ (told0 _ _) rfl (by ((try simp only [AllL, All, cd_p, cp_p, cv_p, InK, and_true, true_and]); all_goals ((repeat' (first | refine And.intro ?_ ?_ | intro _)) <;> first | omega | exact True.intro | assumption | (simp; done) | rfl | (simp_all; done) | (simp_all; omega)))) ?_)))
        (refine lwp_drawn2 hC (by rw [hP]; exact mixed) ⟨[], [], [(1, PRead_i h [(0, some 0), (1, some 1)]), (3, PRdVersines_i b a h [(0, some 0), (1, some 1), (2, some 8)])]⟩ (told1 _ (by rw [hP]; exact (calls_cons (PRead_s _ _ hl hokh.holes) (calls_cons (PRdVersines_s _ _ _ _ hokh hco.1.1 hco.1.2 hco.2.1 hco.2.2) calls_nil)))) [0, 1, 0, 7, 15, 31, 31, 0, 191, 511] 8 64 rfl ?_ ?_; rotate_left 1)
        · have hxl := RVers_len b a h (by omega) (by omega)
          have hxh : HolesOk (RVersinesS b a h).1.vals.length (RVersinesS b a h).1.holes := summed_holes _ _ _ _ _ _
          have hR : againR b a h r = if (RVersinesS b a h).2 ≠ 0 then (false, (RVersinesS b a h).2) else if alikeS (RVersinesS b a h).1 r = false then (false, 2) else (saysB (RVersinesS b a h).1 r, 0) := rfl
          have HR := Lib.hid (HRE.out.trans hR)
          clear hR HRE
          generalize RVersinesS b a h = X at *
          (repeat (first | (refine lwp_seq fun K hK => ?_) | (refine thenS_normal ?_; apply_assumption -exfalso -symm) | (refine thenS_exit ?_) | (refine thenS_ret ?_) | (refine inBlockS_normal ?_) | (refine inBlockS_ret ?_) | (refine inBlockS_hit rfl ?_) | (refine inBlockS_miss rfl ?_) | (refine lwp_block ?_) | (refine lwp_skip ?_) | (refine lwp_exit ?_) | (refine lwp_ret ?_) | (refine lwp_label ?_) | (refine lwp_region hC ⟨[], [], []⟩ (told0 _ _) rfl True.intro ?_) | (refine lwp_region hC ⟨[], [], []⟩ (told0 _ _) rfl (by ((try simp only [AllL, All, cd_p, cp_p, cv_p, InK, and_true, true_and]); all_goals ((repeat' (first | refine And.intro ?_ ?_ | intro _)) <;> first | omega | exact True.intro | assumption | (simp; done) | rfl | (simp_all; done) | (simp_all; omega)))) ?_)))
          by_cases h2 : X.2 = 0
          · (refine lwp_cond hC rfl (by first | exact True.intro | ((try simp only [AllL, All, cd_p, cp_p, cv_p, InK, and_true, true_and]); all_goals ((repeat' (first | refine And.intro ?_ ?_ | intro _)) <;> first | omega | exact True.intro | assumption | (simp; done) | rfl | (simp_all; done) | (simp_all; omega)))) (fun hb => ?_) (fun hb => ?_) <;> (try simp only [decide_eq_true_eq, decide_eq_false_iff_not, Bool.not_eq_true', Bool.not_eq_false', ne_eq, Decidable.not_not] at hb))
            · exact absurd h2 hb
            · clear hb
              (repeat (first | (refine lwp_seq fun K hK => ?_) | (refine thenS_normal ?_; apply_assumption -exfalso -symm) | (refine thenS_exit ?_) | (refine thenS_ret ?_) | (refine inBlockS_normal ?_) | (refine inBlockS_ret ?_) | (refine inBlockS_hit rfl ?_) | (refine inBlockS_miss rfl ?_) | (refine lwp_block ?_) | (refine lwp_skip ?_) | (refine lwp_exit ?_) | (refine lwp_ret ?_) | (refine lwp_label ?_) | (refine lwp_region hC ⟨[], [], []⟩ (told0 _ _) rfl True.intro ?_) | (refine lwp_region hC ⟨[], [], []⟩ (told0 _ _) rfl (by ((try simp only [AllL, All, cd_p, cp_p, cv_p, InK, and_true, true_and]); all_goals ((repeat' (first | refine And.intro ?_ ?_ | intro _)) <;> first | omega | exact True.intro | assumption | (simp; done) | rfl | (simp_all; done) | (simp_all; omega)))) ?_)))
              (refine lwp_region hC ⟨[], [], [(2, PAlike_i X.1 r [(0, some 9), (1, some 10), (2, some 2), (3, some 3)])]⟩ (told1 _ (by rw [hP]; exact (calls_cons (PAlike_s _ _ _) calls_nil))) rfl ?_ ?_; rotate_left 1)
              · (repeat (first | (refine lwp_seq fun K hK => ?_) | (refine thenS_normal ?_; apply_assumption -exfalso -symm) | (refine thenS_exit ?_) | (refine thenS_ret ?_) | (refine inBlockS_normal ?_) | (refine inBlockS_ret ?_) | (refine inBlockS_hit rfl ?_) | (refine inBlockS_miss rfl ?_) | (refine lwp_block ?_) | (refine lwp_skip ?_) | (refine lwp_exit ?_) | (refine lwp_ret ?_) | (refine lwp_label ?_) | (refine lwp_region hC ⟨[], [], []⟩ (told0 _ _) rfl True.intro ?_) | (refine lwp_region hC ⟨[], [], []⟩ (told0 _ _) rfl (by ((try simp only [AllL, All, cd_p, cp_p, cv_p, InK, and_true, true_and]); all_goals ((repeat' (first | refine And.intro ?_ ?_ | intro _)) <;> first | omega | exact True.intro | assumption | (simp; done) | rfl | (simp_all; done) | (simp_all; omega)))) ?_)))
                cases h3 : alikeS X.1 r with
                | false =>
                  (refine lwp_cond hC rfl (by first | exact True.intro | ((try simp only [AllL, All, cd_p, cp_p, cv_p, InK, and_true, true_and]); all_goals ((repeat' (first | refine And.intro ?_ ?_ | intro _)) <;> first | omega | exact True.intro | assumption | (simp; done) | rfl | (simp_all; done) | (simp_all; omega)))) (fun hb => ?_) (fun hb => ?_) <;> (try simp only [decide_eq_true_eq, decide_eq_false_iff_not, Bool.not_eq_true', Bool.not_eq_false', ne_eq, Decidable.not_not] at hb))
                  · (repeat (first | (refine lwp_seq fun K hK => ?_) | (refine thenS_normal ?_; apply_assumption -exfalso -symm) | (refine thenS_exit ?_) | (refine thenS_ret ?_) | (refine inBlockS_normal ?_) | (refine inBlockS_ret ?_) | (refine inBlockS_hit rfl ?_) | (refine inBlockS_miss rfl ?_) | (refine lwp_block ?_) | (refine lwp_skip ?_) | (refine lwp_exit ?_) | (refine lwp_ret ?_) | (refine lwp_label ?_) | (refine lwp_region hC ⟨[], [], []⟩ (told0 _ _) rfl True.intro ?_) | (refine lwp_region hC ⟨[], [], []⟩ (told0 _ _) rfl (by ((try simp only [AllL, All, cd_p, cp_p, cv_p, InK, and_true, true_and]); all_goals ((repeat' (first | refine And.intro ?_ ?_ | intro _)) <;> first | omega | exact True.intro | assumption | (simp; done) | rfl | (simp_all; done) | (simp_all; omega)))) ?_)))
                    rw [HR.out, if_neg (by rw [h2]; decide), if_pos h3]
                    refine noGotoS_ret ?_
                    (refine end_intro (by first | exact .inr rfl | exact .inl rfl) [] rfl ?_)
                    ((try simp only [AllL, All, cd_p, cp_p, cv_p, InK, and_true, true_and]); all_goals ((repeat' (first | refine And.intro ?_ ?_ | intro _)) <;> first | omega | exact True.intro | assumption | (simp; done) | rfl | (simp_all; done) | (simp_all; omega)))
                  · exact absurd hb (by simp)
                | true =>
                  have hal : X.1.first = r.first ∧ X.1.vals.length = r.vals.length := by simpa [alikeS] using h3
                  have hRe : AgainS b a h r = (saysB X.1 r, 0) := by rw [HR.out, if_neg (by rw [h2]; decide), if_neg (by rw [h3]; decide)]
                  have HRE := Lib.hid hRe
                  clear hRe HR
                  (refine lwp_cond hC rfl (by first | exact True.intro | ((try simp only [AllL, All, cd_p, cp_p, cv_p, InK, and_true, true_and]); all_goals ((repeat' (first | refine And.intro ?_ ?_ | intro _)) <;> first | omega | exact True.intro | assumption | (simp; done) | rfl | (simp_all; done) | (simp_all; omega)))) (fun hb => ?_) (fun hb => ?_) <;> (try simp only [decide_eq_true_eq, decide_eq_false_iff_not, Bool.not_eq_true', Bool.not_eq_false', ne_eq, Decidable.not_not] at hb))
                  · exact absurd hb (by simp)
                  · clear hb
                    (repeat (first | (refine lwp_seq fun K hK => ?_) | (refine thenS_normal ?_; apply_assumption -exfalso -symm) | (refine thenS_exit ?_) | (refine thenS_ret ?_) | (refine inBlockS_normal ?_) | (refine inBlockS_ret ?_) | (refine inBlockS_hit rfl ?_) | (refine inBlockS_miss rfl ?_) | (refine lwp_block ?_) | (refine lwp_skip ?_) | (refine lwp_exit ?_) | (refine lwp_ret ?_) | (refine lwp_label ?_) | (refine lwp_region hC ⟨[], [], []⟩ (told0 _ _) rfl True.intro ?_) | (refine lwp_region hC ⟨[], [], []⟩ (told0 _ _) rfl (by ((try simp only [AllL, All, cd_p, cp_p, cv_p, InK, and_true, true_and]); all_goals ((repeat' (first | refine And.intro ?_ ?_ | intro _)) <;> first | omega | exact True.intro | assumption | (simp; done) | rfl | (simp_all; done) | (simp_all; omega)))) ?_)))
                    have hkl := knS_len X.1.vals.length X.1.holes
                    have hkr := knS_len r.vals.length r.holes
                    (refine lwp_drawn hC (by rw [hP]; exact mixed) ⟨[], [], [(1, PRead_i X.1 [(0, some 9), (1, some 10)]), (3, PRead_i r [(0, some 2), (1, some 3)])]⟩ (told1 _ (by rw [hP]; exact (calls_cons (PRead_s _ _ (by omega) hxh) (calls_cons (PRead_s _ _ rl hokr.holes) calls_nil)))) [0, 1, 0, 7, 0, 0, 63, 127] 6 rfl ?_ ?_; rotate_left 1)
                    · (repeat (first | (refine lwp_seq fun K hK => ?_) | (refine thenS_normal ?_; apply_assumption -exfalso -symm) | (refine thenS_exit ?_) | (refine thenS_ret ?_) | (refine inBlockS_normal ?_) | (refine inBlockS_ret ?_) | (refine inBlockS_hit rfl ?_) | (refine inBlockS_miss rfl ?_) | (refine lwp_block ?_) | (refine lwp_skip ?_) | (refine lwp_exit ?_) | (refine lwp_ret ?_) | (refine lwp_label ?_) | (refine lwp_region hC ⟨[], [], []⟩ (told0 _ _) rfl True.intro ?_) | (refine lwp_region hC ⟨[], [], []⟩ (told0 _ _) rfl (by ((try simp only [AllL, All, cd_p, cp_p, cv_p, InK, and_true, true_and]); all_goals ((repeat' (first | refine And.intro ?_ ?_ | intro _)) <;> first | omega | exact True.intro | assumption | (simp; done) | rfl | (simp_all; done) | (simp_all; omega)))) ?_)))
                      refine lwp_loop (fun k : Nat => ⟨[(47, i64 k), (46, i64 X.1.vals.length), (13, bl true), (12, .ptr 16 0 0 0), (11, .ptr 15 0 0 0)], [(16, .blk 114 [i64 r.first, .sl 2 r.vals.length, .sl 3 r.holes.length, .sl 14 r.vals.length]), (15, .blk 114 [i64 X.1.first, .sl 9 X.1.vals.length, .sl 10 X.1.holes.length, .sl 13 X.1.vals.length]), (14, .row 4 r.vals.length 1 (.bools (knS r.vals.length r.holes))), (13, .row 4 X.1.vals.length 1 (.bools (knS X.1.vals.length X.1.holes))), (9, .ro X.1.vals.length 1 (.ints .i64 X.1.vals)), (10, .ro X.1.holes.length 2 (spC X.1.holes)), (0, .ro h.vals.length 1 (.ints .i64 h.vals)), (1, .ro h.holes.length 2 (spC h.holes)), (2, .ro r.vals.length 1 (.ints .i64 r.vals)), (3, .ro r.holes.length 2 (spC r.holes))], 17⟩) (fun k => k ≤ X.1.vals.length ∧ ∀ i : Nat, i < k → saysP X.1 r i = true) (fun k => X.1.vals.length - k) 0 ⟨?_, sub_intro hm [(0, some 0), (1, some 1), (2, some 2), (3, some 3), (9, some 9), (10, some 10), (13, some 13), (14, some 14), (15, some 15), (16, some 16)] rfl ?_⟩ ?_
                      · exact ⟨Nat.zero_le _, fun i hi => absurd hi (Nat.not_lt_zero _)⟩
                      · simp only [All, cd_p, cp_p, cv_p]
                        (repeat' refine And.intro ?_ ?_) <;> first | trivial | rfl | omega
                      · rintro k ⟨hk, hf⟩
                        have hkk : ((k : Int)).toNat = k := Int.toNat_natCast k
                        have HF := Lib.hid hf
                        clear hf
                        (repeat (first | (refine lwp_seq fun K hK => ?_) | (refine thenS_normal ?_; apply_assumption -exfalso -symm) | (refine thenS_exit ?_) | (refine thenS_ret ?_) | (refine inBlockS_normal ?_) | (refine inBlockS_ret ?_) | (refine inBlockS_hit rfl ?_) | (refine inBlockS_miss rfl ?_) | (refine lwp_block ?_) | (refine lwp_skip ?_) | (refine lwp_exit ?_) | (refine lwp_ret ?_) | (refine lwp_label ?_) | (refine lwp_region hC ⟨[], [], []⟩ (told0 _ _) rfl True.intro ?_) | (refine lwp_region hC ⟨[], [], []⟩ (told0 _ _) rfl (by ((try simp only [AllL, All, cd_p, cp_p, cv_p, InK, and_true, true_and]); all_goals ((repeat' (first | refine And.intro ?_ ?_ | intro _)) <;> first | omega | exact True.intro | assumption | (simp; done) | rfl | (simp_all; done) | (simp_all; omega)))) ?_)))
                        (refine lwp_cond hC rfl (by first | exact True.intro | ((try simp only [AllL, All, cd_p, cp_p, cv_p, InK, and_true, true_and]); all_goals ((repeat' (first | refine And.intro ?_ ?_ | intro _)) <;> first | omega | exact True.intro | assumption | (simp; done) | rfl | (simp_all; done) | (simp_all; omega)))) (fun hb => ?_) (fun hb => ?_) <;> (try simp only [decide_eq_true_eq, decide_eq_false_iff_not, Bool.not_eq_true', Bool.not_eq_false', ne_eq, Decidable.not_not] at hb))
                        · have hkx : k < X.1.vals.length := by omega
                          have hkr2 : k < r.vals.length := by omega
                          have e1 := knS_at X.1.holes hkx
                          have e2 := knS_at r.holes hkr2
                          have hsp : saysP X.1 r k = (!(knownB X.1.holes k && knownB r.holes k) || decide (X.1.vals.getD k 0 = r.vals.getD k 0)) := rfl
                          have HSP := Lib.hid hsp
                          clear hsp
                          (repeat (first | (refine lwp_seq fun K hK => ?_) | (refine thenS_normal ?_; apply_assumption -exfalso -symm) | (refine thenS_exit ?_) | (refine thenS_ret ?_) | (refine inBlockS_normal ?_) | (refine inBlockS_ret ?_) | (refine inBlockS_hit rfl ?_) | (refine inBlockS_miss rfl ?_) | (refine lwp_block ?_) | (refine lwp_skip ?_) | (refine lwp_exit ?_) | (refine lwp_ret ?_) | (refine lwp_label ?_) | (refine lwp_region hC ⟨[], [], []⟩ (told0 _ _) rfl True.intro ?_) | (refine lwp_region hC ⟨[], [], []⟩ (told0 _ _) rfl (by ((try simp only [AllL, All, cd_p, cp_p, cv_p, InK, and_true, true_and]); all_goals ((repeat' (first | refine And.intro ?_ ?_ | intro _)) <;> first | omega | exact True.intro | assumption | (simp; done) | rfl | (simp_all; done) | (simp_all; omega)))) ?_)))
                          (refine lwp_drawn2 hC (by rw [hP]; exact mixed) ⟨[], [], []⟩ (told0 _ _) [0, 1, 0, 7, 15, 31, 63, 127, 63, 511, 1023, 2047, 4095, 8191, 16383, 32767, 8191, 131071, 262143, 8191, 532479, 1581055, 8191, 7872511, 16261119, 33554431, 67108863] 27 0 rfl ?_ ?_; rotate_left 1)
                          · (repeat (first | (refine lwp_seq fun K hK => ?_) | (refine thenS_normal ?_; apply_assumption -exfalso -symm) | (refine thenS_exit ?_) | (refine thenS_ret ?_) | (refine inBlockS_normal ?_) | (refine inBlockS_ret ?_) | (refine inBlockS_hit rfl ?_) | (refine inBlockS_miss rfl ?_) | (refine lwp_block ?_) | (refine lwp_skip ?_) | (refine lwp_exit ?_) | (refine lwp_ret ?_) | (refine lwp_label ?_) | (refine lwp_region hC ⟨[], [], []⟩ (told0 _ _) rfl True.intro ?_) | (refine lwp_region hC ⟨[], [], []⟩ (told0 _ _) rfl (by ((try simp only [AllL, All, cd_p, cp_p, cv_p, InK, and_true, true_and]); all_goals ((repeat' (first | refine And.intro ?_ ?_ | intro _)) <;> first | omega | exact True.intro | assumption | (simp; done) | rfl | (simp_all; done) | (simp_all; omega)))) ?_)))
                            simp only [hkk, e1, e2, bif_and]
                            generalize knownB X.1.holes k = u at *
                            generalize knownB r.holes k = v at *
                            generalize X.1.vals.getD k 0 = x at *
                            generalize r.vals.getD k 0 = y at *
                            (refine lwp_cond hC rfl (by first | exact True.intro | ((try simp only [AllL, All, cd_p, cp_p, cv_p, InK, and_true, true_and]); all_goals ((repeat' (first | refine And.intro ?_ ?_ | intro _)) <;> first | omega | exact True.intro | assumption | (simp; done) | rfl | (simp_all; done) | (simp_all; omega)))) (fun hb => ?_) (fun hb => ?_) <;> (try simp only [decide_eq_true_eq, decide_eq_false_iff_not, Bool.not_eq_true', Bool.not_eq_false', ne_eq, Decidable.not_not] at hb))
                            · simp only [Bool.and_eq_true, decide_eq_true_eq] at hb
                              have hS : saysB X.1 r = false := saysB_false hkx (by rw [HSP.out, hb.1.1, hb.1.2]; simp [hb.2])
                              (repeat (first | (refine lwp_seq fun K hK => ?_) | (refine thenS_normal ?_; apply_assumption -exfalso -symm) | (refine thenS_exit ?_) | (refine thenS_ret ?_) | (refine inBlockS_normal ?_) | (refine inBlockS_ret ?_) | (refine inBlockS_hit rfl ?_) | (refine inBlockS_miss rfl ?_) | (refine lwp_block ?_) | (refine lwp_skip ?_) | (refine lwp_exit ?_) | (refine lwp_ret ?_) | (refine lwp_label ?_) | (refine lwp_region hC ⟨[], [], []⟩ (told0 _ _) rfl True.intro ?_) | (refine lwp_region hC ⟨[], [], []⟩ (told0 _ _) rfl (by ((try simp only [AllL, All, cd_p, cp_p, cv_p, InK, and_true, true_and]); all_goals ((repeat' (first | refine And.intro ?_ ?_ | intro _)) <;> first | omega | exact True.intro | assumption | (simp; done) | rfl | (simp_all; done) | (simp_all; omega)))) ?_)))
                              refine noGotoS_ret ?_
                              rw [HRE.out, hS]
                              (refine end_intro (by first | exact .inr rfl | exact .inl rfl) [] rfl ?_)
                              ((try simp only [AllL, All, cd_p, cp_p, cv_p, InK, and_true, true_and]); all_goals ((repeat' (first | refine And.intro ?_ ?_ | intro _)) <;> first | omega | exact True.intro | assumption | (simp; done) | rfl | (simp_all; done) | (simp_all; omega)))
                            · have hP : saysP X.1 r k = true := by
                                rw [HSP.out]
                                revert hb
                                cases u <;> cases v <;> simp
                              clear hb
                              (repeat (first | (refine lwp_seq fun K hK => ?_) | (refine thenS_normal ?_; apply_assumption -exfalso -symm) | (refine thenS_exit ?_) | (refine thenS_ret ?_) | (refine inBlockS_normal ?_) | (refine inBlockS_ret ?_) | (refine inBlockS_hit rfl ?_) | (refine inBlockS_miss rfl ?_) | (refine lwp_block ?_) | (refine lwp_skip ?_) | (refine lwp_exit ?_) | (refine lwp_ret ?_) | (refine lwp_label ?_) | (refine lwp_region hC ⟨[], [], []⟩ (told0 _ _) rfl True.intro ?_) | (refine lwp_region hC ⟨[], [], []⟩ (told0 _ _) rfl (by ((try simp only [AllL, All, cd_p, cp_p, cv_p, InK, and_true, true_and]); all_goals ((repeat' (first | refine And.intro ?_ ?_ | intro _)) <;> first | omega | exact True.intro | assumption | (simp; done) | rfl | (simp_all; done) | (simp_all; omega)))) ?_)))
                              refine thenS_normal ⟨k + 1, ?_, ?_, sub_intro hm [(0, some 0), (1, some 1), (2, some 2), (3, some 3), (9, some 9), (10, some 10), (13, some 13), (14, some 14), (15, some 15), (16, some 16)] rfl ?_⟩
                              · refine ⟨by omega, fun i hi => ?_⟩
                                by_cases e : i = k
                                · subst e; exact hP
                                · exact HF.out i (by omega)
                              · omega
                              · simp only [All, cd_p, cp_p, cv_p]
                                (repeat' refine And.intro ?_ ?_) <;> first | trivial | rfl | omega
                          · simp only [AllL, All, cd_p, cp_p, cv_p, InK, hkk]
                            (repeat' (first | refine And.intro ?_ ?_ | intro _)) <;> first | omega | assumption | trivial | rfl
                        · have hS : saysB X.1 r = true := saysB_true fun i hi => HF.out i (by omega)
                          (repeat (first | (refine lwp_seq fun K hK => ?_) | (refine thenS_normal ?_; apply_assumption -exfalso -symm) | (refine thenS_exit ?_) | (refine thenS_ret ?_) | (refine inBlockS_normal ?_) | (refine inBlockS_ret ?_) | (refine inBlockS_hit rfl ?_) | (refine inBlockS_miss rfl ?_) | (refine lwp_block ?_) | (refine lwp_skip ?_) | (refine lwp_exit ?_) | (refine lwp_ret ?_) | (refine lwp_label ?_) | (refine lwp_region hC ⟨[], [], []⟩ (told0 _ _) rfl True.intro ?_) | (refine lwp_region hC ⟨[], [], []⟩ (told0 _ _) rfl (by ((try simp only [AllL, All, cd_p, cp_p, cv_p, InK, and_true, true_and]); all_goals ((repeat' (first | refine And.intro ?_ ?_ | intro _)) <;> first | omega | exact True.intro | assumption | (simp; done) | rfl | (simp_all; done) | (simp_all; omega)))) ?_)))
                          refine noGotoS_ret ?_
                          rw [HRE.out, hS]
                          (refine end_intro (by first | exact .inr rfl | exact .inl rfl) [] rfl ?_)
                          ((try simp only [AllL, All, cd_p, cp_p, cv_p, InK, and_true, true_and]); all_goals ((repeat' (first | refine And.intro ?_ ?_ | intro _)) <;> first | omega | exact True.intro | assumption | (simp; done) | rfl | (simp_all; done) | (simp_all; omega)))
                    · ((try simp only [AllL, All, cd_p, cp_p, cv_p, InK, and_true, true_and]); all_goals ((repeat' (first | refine And.intro ?_ ?_ | intro _)) <;> first | omega | exact True.intro | assumption | (simp; done) | rfl | (simp_all; done) | (simp_all; omega)))
              · ((try simp only [AllL, All, cd_p, cp_p, cv_p, InK, and_true, true_and]); all_goals ((repeat' (first | refine And.intro ?_ ?_ | intro _)) <;> first | omega | exact True.intro | assumption | (simp; done) | rfl | (simp_all; done) | (simp_all; omega)))
          · (refine lwp_cond hC rfl (by first | exact True.intro | ((try simp only [AllL, All, cd_p, cp_p, cv_p, InK, and_true, true_and]); all_goals ((repeat' (first | refine And.intro ?_ ?_ | intro _)) <;> first | omega | exact True.intro | assumption | (simp; done) | rfl | (simp_all; done) | (simp_all; omega)))) (fun hb => ?_) (fun hb => ?_) <;> (try simp only [decide_eq_true_eq, decide_eq_false_iff_not, Bool.not_eq_true', Bool.not_eq_false', ne_eq, Decidable.not_not] at hb))
            · (repeat (first | (refine lwp_seq fun K hK => ?_) | (refine thenS_normal ?_; apply_assumption -exfalso -symm) | (refine thenS_exit ?_) | (refine thenS_ret ?_) | (refine inBlockS_normal ?_) | (refine inBlockS_ret ?_) | (refine inBlockS_hit rfl ?_) | (refine inBlockS_miss rfl ?_) | (refine lwp_block ?_) | (refine lwp_skip ?_) | (refine lwp_exit ?_) | (refine lwp_ret ?_) | (refine lwp_label ?_) | (refine lwp_region hC ⟨[], [], []⟩ (told0 _ _) rfl True.intro ?_) | (refine lwp_region hC ⟨[], [], []⟩ (told0 _ _) rfl (by ((try simp only [AllL, All, cd_p, cp_p, cv_p, InK, and_true, true_and]); all_goals ((repeat' (first | refine And.intro ?_ ?_ | intro _)) <;> first | omega | exact True.intro | assumption | (simp; done) | rfl | (simp_all; done) | (simp_all; omega)))) ?_)))
              rw [HR.out, if_pos h2]
              refine noGotoS_ret ?_
              (refine end_intro (by first | exact .inr rfl | exact .inl rfl) [] rfl ?_)
              ((try simp only [AllL, All, cd_p, cp_p, cv_p, InK, and_true, true_and]); all_goals ((repeat' (first | refine And.intro ?_ ?_ | intro _)) <;> first | omega | exact True.intro | assumption | (simp; done) | rfl | (simp_all; done) | (simp_all; omega)))
            · exact absurd hb h2
        · ((try simp only [AllL, All, cd_p, cp_p, cv_p, InK, and_true, true_and]); all_goals ((repeat' (first | refine And.intro ?_ ?_ | intro _)) <;> first | omega | exact True.intro | assumption | (simp; done) | rfl | (simp_all; done) | (simp_all; omega)))
    · have hRe : AgainS b a h r = (false, firstS [chordS b a, traceS h, traceS r]) := by unfold AgainS; rw [if_pos h1]
      (refine lwp_cond hC rfl (by first | exact True.intro | ((try simp only [AllL, All, cd_p, cp_p, cv_p, InK, and_true, true_and]); all_goals ((repeat' (first | refine And.intro ?_ ?_ | intro _)) <;> first | omega | exact True.intro | assumption | (simp; done) | rfl | (simp_all; done) | (simp_all; omega)))) (fun hb => ?_) (fun hb => ?_) <;> (try simp only [decide_eq_true_eq, decide_eq_false_iff_not, Bool.not_eq_true', Bool.not_eq_false', ne_eq, Decidable.not_not] at hb))
      · (repeat (first | (refine lwp_seq fun K hK => ?_) | (refine thenS_normal ?_; apply_assumption -exfalso -symm) | (refine thenS_exit ?_) | (refine thenS_ret ?_) | (refine inBlockS_normal ?_) | (refine inBlockS_ret ?_) | (refine inBlockS_hit rfl ?_) | (refine inBlockS_miss rfl ?_) | (refine lwp_block ?_) | (refine lwp_skip ?_) | (refine lwp_exit ?_) | (refine lwp_ret ?_) | (refine lwp_label ?_) | (refine lwp_region hC ⟨[], [], []⟩ (told0 _ _) rfl True.intro ?_) | (refine lwp_region hC ⟨[], [], []⟩ (told0 _ _) rfl (by ((try simp only [AllL, All, cd_p, cp_p, cv_p, InK, and_true, true_and]); all_goals ((repeat' (first | refine And.intro ?_ ?_ | intro _)) <;> first | omega | exact True.intro | assumption | (simp; done) | rfl | (simp_all; done) | (simp_all; omega)))) ?_)))
        rw [hRe]
        refine noGotoS_ret ?_
        (refine end_intro (by first | exact .inr rfl | exact .inl rfl) [] rfl ?_)
        ((try simp only [AllL, All, cd_p, cp_p, cv_p, InK, and_true, true_and]); all_goals ((repeat' (first | refine And.intro ?_ ?_ | intro _)) <;> first | omega | exact True.intro | assumption | (simp; done) | rfl | (simp_all; done) | (simp_all; omega)))
      · exact absurd hb h1
  · ((try simp only [AllL, All, cd_p, cp_p, cv_p, InK, and_true, true_and]); all_goals ((repeat' (first | refine And.intro ?_ ?_ | intro _)) <;> first | omega | exact True.intro | assumption | (simp; done) | rfl | (simp_all; done) | (simp_all; omega)))

end Go.Proofs.YtbpffadffbgloaaGreatDoor
