/- The law ChordAgain: its run. -/
import Derived.Test.YtbpffadffbgloaaDoorRv
import Derived.Test.YtbpffadffbgloaaDoorTe
import Derived.Test.YtbpffadffbgloaaDoorTf
import Derived.Test.YtbpffadffbgloaaDoorTs
import Derived.Test.YtbpffadffbgloaaDoorTx
import Derived.Test.YtbpffadffbgloaaDoorTy
set_option linter.unusedVariables false
set_option linter.unusedSimpArgs false
namespace Go.Proofs.YtbpffadffbgloaaDoor
open Go.RowKit Go.Sym

/-- What the law uses of the versines of levels. -/
structure VersOk (b a f : Int) (l : List Int) (X : Tr × Int) : Prop where
  e : X.2 = 0
  first : X.1.first = f + b
  len : X.1.vals.length = l.length - (b + a).toNat
  holes : X.1.holes = []
  ok : traceS X.1 = 0
  val : ∀ i : Nat, i < X.1.vals.length → X.1.vals.getD i 0 = versV b a l i
theorem vers_ok {b a f : Int} {l : List Int} (hc : chordS b a = 0) (ht : traceS ⟨f, l, []⟩ = 0) (hs : SmallL l) (hn : b + a < l.length) : VersOk b a f l (VersinesS b a ⟨f, l, []⟩) := by
  have hco := chordS_ok hc
  have hok := traceS_ok ht
  have f0 := hok.f0
  have f1 := hok.end_
  have fl := hok.len
  have e : VersinesS b a ⟨f, l, []⟩ = (⟨f + b, (List.range (l.length - (b + a).toNat)).map (versV b a l), []⟩, 0) := by
    rw [VersinesS_ok hc ht, vers_plain hco.1.1 hco.1.2 hco.2.1 hco.2.2 hs hn]
  rw [e]
  dsimp only at f0 f1 fl
  refine ⟨rfl, rfl, by simp, rfl, ?_, fun i hi => ?_⟩
  · refine traceS_plain (by omega) (by simp only [List.length_map, List.length_range]; omega) (by simp only [List.length_map, List.length_range]; omega) fun x hx => ?_
    obtain ⟨i, _, rfl⟩ := List.mem_map.1 hx
    have := versV_small hco.1.1 hco.1.2 hco.2.1 hco.2.2 hs i
    omega
  · simp only [List.length_map, List.length_range] at hi
    simp [hi]
theorem tr_eta {t : Tr} {f : Int} {l : List Int} (h1 : t.first = f) (h2 : t.vals = l) (h3 : t.holes = []) : t = ⟨f, l, []⟩ := by
  cases t; simp only at h1 h2 h3; subst h1; subst h2; subst h3; rfl
theorem restored_ok {b a f : Int} {l : List Int} {X : Tr × Int} (hc : chordS b a = 0) (ht : traceS ⟨f, l, []⟩ = 0) (hs : SmallL l) (hve : ∀ x ∈ l, readingS x = 0) (hn : b + a < l.length) (hX : VersOk b a f l X) :
    RestoredS b a X.1 (l.take (b + a).toNat) = (⟨f, l, []⟩, 0) := by
  have hco := chordS_ok hc
  have hok := traceS_ok ht
  have f0 := hok.f0
  have f1 := hok.end_
  have fl := hok.len
  dsimp only at f0 f1 fl
  rw [restored_levels (kn := fun _ => true) hc hs hve hX.len (by omega) (fun i hi _ => hX.val i hi) (fun _ _ => rfl) (fun i _ => by rw [hX.holes]; rfl) hX.ok hX.first f0 f1 fl, heights_all]
theorem again_ok {b a f : Int} {l : List Int} (hc : chordS b a = 0) (ht : traceS ⟨f, l, []⟩ = 0) (hX : VersOk b a f l (VersinesS b a ⟨f, l, []⟩)) : AgainS b a ⟨f, l, []⟩ (VersinesS b a ⟨f, l, []⟩).1 = (true, 0) := by
  have e : VersinesS b a ⟨f, l, []⟩ = RVersinesS b a ⟨f, l, []⟩ := VersinesS_ok hc ht
  unfold AgainS
  rw [hc, ht, hX.ok, if_neg (by decide)]
  unfold againR
  rw [← e, hX.e, if_neg (by decide)]
  have h1 : alikeS (VersinesS b a ⟨f, l, []⟩).1 (VersinesS b a ⟨f, l, []⟩).1 = true := by simp [alikeS]
  rw [h1, if_neg (by decide)]
  have h2 : saysB (VersinesS b a ⟨f, l, []⟩).1 (VersinesS b a ⟨f, l, []⟩).1 = true := saysB_true fun i _ => by unfold saysP; simp
  rw [h2]
/-- What the law uses of heights that are restored out of readings with a hole. -/
structure TornOk (b a f : Int) (l : List Int) (k : Nat) (Z : Tr × Int) : Prop where
  e : Z.2 = 0
  first : Z.1.first = f
  len : Z.1.vals.length = l.length
  hol : Z.1.holes.length ≤ l.length
  ok : traceS Z.1 = 0
  known : ∀ i : Nat, i < l.length → knownB Z.1.holes i = knF b.toNat a.toNat k i
  val : ∀ i : Nat, i < l.length → knF b.toNat a.toNat k i = true → Z.1.vals.getD i 0 = l.getD i 0
theorem torn_ok {b a f : Int} {l : List Int} {X : Tr × Int} {k : Nat} (hc : chordS b a = 0) (ht : traceS ⟨f, l, []⟩ = 0) (hs : SmallL l) (hve : ∀ x ∈ l, readingS x = 0) (hn : b + a < l.length) (hX : VersOk b a f l X) (hk : k < X.1.vals.length) :
    TornOk b a f l k (RestoredS b a (tornT X.1 k) (l.take (b + a).toNat)) := by
  have hco := chordS_ok hc
  have hok := traceS_ok ht
  have f0 := hok.f0
  have f1 := hok.end_
  have fl := hok.len
  dsimp only at f0 f1 fl
  have hM : (b + a).toNat = b.toNat + a.toNat := by omega
  have e := restored_levels (v := tornT X.1 k) (f := f) (kn := knF b.toNat a.toNat k) hc hs hve (by unfold tornT; dsimp only; rw [List.length_set]; exact hX.len) (by omega)
    (fun i hi hkn => by
      unfold tornT at hi hkn ⊢
      dsimp only at hi hkn ⊢
      rw [List.length_set] at hi
      rw [torn_known] at hkn
      have hne : i ≠ k := by simpa using hkn
      rw [List.getD_eq_getElem?_getD, List.getElem?_set_ne (Ne.symm hne), ← List.getD_eq_getElem?_getD]
      exact hX.val i hi)
    (fun i hi => knF_low (by omega))
    (fun i _ => by
      rw [hM, knF_high (by omega) (by omega)]
      have : (tornT X.1 k).holes = [((k : Int), (k : Int) + 1)] := rfl
      rw [this, torn_known]) (torn_valid hX.ok hk) hX.first f0 f1 fl
  rw [e]
  have hl : (heights l (knF b.toNat a.toNat k) l.length).length = l.length := by simp [heights]
  have hlen := addAll_len (heights l (knF b.toNat a.toNat k) l.length)
  refine ⟨rfl, rfl, by dsimp only; omega, by dsimp only; omega, ?_, fun i hi => ?_, fun i hi hkn => ?_⟩
  · refine made_valid ?_ f0 (by rw [hl]; exact f1) (by rw [hl]; exact fl)
    rw [List.any_eq_false]
    intro x hx
    obtain ⟨i, hi, rfl⟩ := List.mem_map.1 hx
    have hi := List.mem_range.1 hi
    have h1 : readingS (l.getD i 0) = 0 := by
      rw [List.getD_eq_getElem?_getD, List.getElem?_eq_getElem hi]; exact hve _ (List.getElem_mem hi)
    unfold badS
    cases hkn : knF b.toNat a.toNat k i with
    | false => simp
    | true => simp only [if_true]; rw [h1]; simp
  · dsimp only
    rw [(addAll_inv _).2.2 i (by rw [hl]; exact hi), heights_get _ _ _ _ hi]
  · dsimp only
    rw [made_get i (by rw [hl]; exact hi), heights_get _ _ _ _ hi]
    dsimp only
    rw [hkn]; rfl
theorem moved_ok {b a f n1 n2 n3 : Int} {l : List Int} {g : Nat} (hc : chordS b a = 0) (ht : traceS ⟨f, l, []⟩ = 0) (hs : ∀ x ∈ l, -20000 ≤ x ∧ x ≤ 20000) (hl60 : l.length ≤ 60) (hn : b + a < l.length)
    (m1 : -128 ≤ n1 ∧ n1 ≤ 127) (m2 : -128 ≤ n2 ∧ n2 ≤ 127) (m3 : -128 ≤ n3 ∧ n3 ≤ 127) (hgb : g ∣ b.toNat) (hga : g ∣ a.toNat) (hg1 : 1 ≤ g) (hg32 : g ≤ 32) :
    VersinesS b a ⟨f, movedL l n1 n2 n3 g, []⟩ = VersinesS b a ⟨f, l, []⟩ := by
  have hco := chordS_ok hc
  have hok := traceS_ok ht
  have f0 := hok.f0
  have f1 := hok.end_
  dsimp only at f0 f1
  have hml : (movedL l n1 n2 n3 g).length = l.length := by simp [movedL]
  have hsm : ∀ x ∈ movedL l n1 n2 n3 g, -100000 ≤ x ∧ x ≤ 100000 := by
    intro x hx
    obtain ⟨j, hj, rfl⟩ := List.mem_map.1 hx
    have hj := List.mem_range.1 hj
    have h1 : -20000 ≤ l.getD j 0 ∧ l.getD j 0 ≤ 20000 := by
      rw [List.getD_eq_getElem?_getD, List.getElem?_eq_getElem hj]; exact hs _ (List.getElem_mem hj)
    have h2 := Nat.mod_lt j (show g > 0 by omega)
    have bnd : ∀ u v : Int, u.natAbs ≤ 128 → v.natAbs ≤ 60 → -7680 ≤ u * v ∧ u * v ≤ 7680 := by
      intro u v h5 h6
      have := Int.natAbs_mul u v
      have h7 := Nat.mul_le_mul h5 h6
      generalize u * v = c at *
      generalize u.natAbs * v.natAbs = d at *
      omega
    have k1 := bnd n2 (j : Int) (by omega) (by omega)
    have k2 := bnd n3 ((j % g : Nat) : Int) (by omega) (by omega)
    unfold movedAt
    omega
  have hmt : traceS ⟨f, movedL l n1 n2 n3 g, []⟩ = 0 := traceS_plain f0 (by rw [hml]; exact f1) (by rw [hml]; omega) fun x hx => by have := hsm x hx; omega
  have hsl : SmallL l := smallL_of fun x hx => by have := hs x hx; omega
  rw [VersinesS_ok hc hmt, VersinesS_ok hc ht, vers_plain hco.1.1 hco.1.2 hco.2.1 hco.2.2 (smallL_of hsm) (by rw [hml]; exact hn), vers_plain hco.1.1 hco.1.2 hco.2.1 hco.2.2 hsl hn, hml]
  have e : (List.range (l.length - (b + a).toNat)).map (versV b a (movedL l n1 n2 n3 g)) = (List.range (l.length - (b + a).toNat)).map (versV b a l) := by
    refine List.map_congr_left fun i hi => ?_
    have hi := List.mem_range.1 hi
    exact moved_vers hco.1.1 hco.2.1 hgb hga i (by omega)
  rw [e]

theorem prod_i8 {u v : Int} (h5 : u.natAbs ≤ 128) (h6 : v.natAbs ≤ 60) : -7680 ≤ u * v ∧ u * v ≤ 7680 := by
  have := Int.natAbs_mul u v
  have h7 := Nat.mul_le_mul h5 h6
  generalize u * v = c at *
  generalize u.natAbs * v.natAbs = d at *
  omega
def i8 (n : Int) : AV := .lit (.int .i8 n)
def LAgain_i (b a : Int) (t : Tr) (n0 n1 n2 n3 : Int) : Inst := { f := 9, gl := powG, hin := lawIn t, args := [.agg [i64 b, i64 a], trA 1 2 t, .agg [.lit (.int .i8 n0), .lit (.int .i8 n1), .lit (.int .i8 n2), .lit (.int .i8 n3)]], hout := [], ret := bl true, σ := [] }
set_option maxRecDepth 20000 in
set_option maxHeartbeats 16000000 in
theorem LAgain_s (b a : Int) (t : Tr) (n0 n1 n2 n3 : Int) (hv0 : t.vals.length ≤ 9223372036854775807) (hh0 : t.holes.length ≤ 9223372036854775807) (m0 : -128 ≤ n0 ∧ n0 ≤ 127) (m1 : -128 ≤ n1 ∧ n1 ≤ 127) (m2 : -128 ≤ n2 ∧ n2 ≤ 127) (m3 : -128 ≤ n3 ∧ n3 ≤ 127) : (LAgain_i b a t n0 n1 n2 n3).ok Tryd.prog := by
  obtain ⟨f, l, hs⟩ := t
  dsimp only at hv0 hh0
  unfold LAgain_i Inst.ok; dsimp only; refine spec_of_body (tys := tys) 3 Tryd.func9 (by kernel_rfl) rfl tys_ok rfl (Nat.le_of_ble_eq_true rfl) (fun g i h => by simp only [List.mem_cons, List.not_mem_nil, or_false, Prod.mk.injEq] at h; omega) fun F hP hm hC => ?_; conv => whnf
  (repeat (first | (refine lwp_seq fun K hK => ?_) | (refine thenS_normal ?_; apply_assumption -exfalso -symm) | (refine thenS_exit ?_) | (refine thenS_ret ?_) | (refine inBlockS_normal ?_) | (refine inBlockS_ret ?_) | (refine inBlockS_hit rfl ?_) | (refine inBlockS_miss rfl ?_) | (refine lwp_block ?_) | (refine lwp_skip ?_) | (refine lwp_exit ?_) | (refine lwp_ret ?_) | (refine lwp_label ?_) | (refine lwp_region hC ⟨[], [], []⟩ (told0 _ _) rfl True.intro ?_) | (refine lwp_region hC ⟨[], [], []⟩ (told0 _ _) rfl (by ((try simp only [AllL, All, cd_p, cp_p, cv_p, InK, and_true, true_and]); all_goals ((repeat' (first | refine And.intro ?_ ?_ | intro _)) <;> first | omega | exact True.intro | assumption | (simp; done) | rfl | (simp_all; done) | (simp_all; omega)))) ?_)))
  cases hsm : smallB b a ⟨f, l, hs⟩ with
  | false =>
    (refine lwp_region hC ⟨[(4, { b := some true }), (5, { g := some false }), (6, { g := some false }), (7, { g := some false }), (8, { g := some false })], [], [(2, Small_i b a ⟨f, l, hs⟩ [(0, some 1), (1, some 2)])]⟩ (told1 _ (by rw [hP]; exact (calls_cons (Small_s _ _ _ _ hv0 hh0) calls_nil))) rfl ?_ ?_; rotate_left 1)
    · (repeat (first | (refine lwp_seq fun K hK => ?_) | (refine thenS_normal ?_; apply_assumption -exfalso -symm) | (refine thenS_exit ?_) | (refine thenS_ret ?_) | (refine inBlockS_normal ?_) | (refine inBlockS_ret ?_) | (refine inBlockS_hit rfl ?_) | (refine inBlockS_miss rfl ?_) | (refine lwp_block ?_) | (refine lwp_skip ?_) | (refine lwp_exit ?_) | (refine lwp_ret ?_) | (refine lwp_label ?_) | (refine lwp_region hC ⟨[], [], []⟩ (told0 _ _) rfl True.intro ?_) | (refine lwp_region hC ⟨[], [], []⟩ (told0 _ _) rfl (by ((try simp only [AllL, All, cd_p, cp_p, cv_p, InK, and_true, true_and]); all_goals ((repeat' (first | refine And.intro ?_ ?_ | intro _)) <;> first | omega | exact True.intro | assumption | (simp; done) | rfl | (simp_all; done) | (simp_all; omega)))) ?_)))
      (refine lwp_cond hC rfl (by first | exact True.intro | ((try simp only [AllL, All, cd_p, cp_p, cv_p, InK, and_true, true_and]); all_goals ((repeat' (first | refine And.intro ?_ ?_ | intro _)) <;> first | omega | exact True.intro | assumption | (simp; done) | rfl | (simp_all; done) | (simp_all; omega)))) (fun hb => ?_) (fun hb => ?_) <;> (try simp only [decide_eq_true_eq, decide_eq_false_iff_not, Bool.not_eq_true', Bool.not_eq_false', ne_eq, Decidable.not_not] at hb))
      · (repeat (first | (refine lwp_seq fun K hK => ?_) | (refine thenS_normal ?_; apply_assumption -exfalso -symm) | (refine thenS_exit ?_) | (refine thenS_ret ?_) | (refine inBlockS_normal ?_) | (refine inBlockS_ret ?_) | (refine inBlockS_hit rfl ?_) | (refine inBlockS_miss rfl ?_) | (refine lwp_block ?_) | (refine lwp_skip ?_) | (refine lwp_exit ?_) | (refine lwp_ret ?_) | (refine lwp_label ?_) | (refine lwp_region hC ⟨[], [], []⟩ (told0 _ _) rfl True.intro ?_) | (refine lwp_region hC ⟨[], [], []⟩ (told0 _ _) rfl (by ((try simp only [AllL, All, cd_p, cp_p, cv_p, InK, and_true, true_and]); all_goals ((repeat' (first | refine And.intro ?_ ?_ | intro _)) <;> first | omega | exact True.intro | assumption | (simp; done) | rfl | (simp_all; done) | (simp_all; omega)))) ?_)))
        (refine lwp_region hC ⟨[], [], [(0, Awake_i [(0, some 0)])]⟩ (told1 _ (by rw [hP]; exact (calls_cons (Awake_s _) calls_nil))) rfl ?_ ?_; rotate_left 1)
        · (repeat (first | (refine lwp_seq fun K hK => ?_) | (refine thenS_normal ?_; apply_assumption -exfalso -symm) | (refine thenS_exit ?_) | (refine thenS_ret ?_) | (refine inBlockS_normal ?_) | (refine inBlockS_ret ?_) | (refine inBlockS_hit rfl ?_) | (refine inBlockS_miss rfl ?_) | (refine lwp_block ?_) | (refine lwp_skip ?_) | (refine lwp_exit ?_) | (refine lwp_ret ?_) | (refine lwp_label ?_) | (refine lwp_region hC ⟨[], [], []⟩ (told0 _ _) rfl True.intro ?_) | (refine lwp_region hC ⟨[], [], []⟩ (told0 _ _) rfl (by ((try simp only [AllL, All, cd_p, cp_p, cv_p, InK, and_true, true_and]); all_goals ((repeat' (first | refine And.intro ?_ ?_ | intro _)) <;> first | omega | exact True.intro | assumption | (simp; done) | rfl | (simp_all; done) | (simp_all; omega)))) ?_)))
          (refine end_intro (by first | exact .inr rfl | exact .inl rfl) [] rfl ?_)
          ((try simp only [AllL, All, cd_p, cp_p, cv_p, InK, and_true, true_and]); all_goals ((repeat' (first | refine And.intro ?_ ?_ | intro _)) <;> first | omega | exact True.intro | assumption | (simp; done) | rfl | (simp_all; done) | (simp_all; omega)))
        · ((try simp only [AllL, All, cd_p, cp_p, cv_p, InK, and_true, true_and]); all_goals ((repeat' (first | refine And.intro ?_ ?_ | intro _)) <;> first | omega | exact True.intro | assumption | (simp; done) | rfl | (simp_all; done) | (simp_all; omega)))
      · exact absurd hb (by simp)
    · (simp only [AllL, All, cd_p, cp_p, cv_p, hsm, Bool.not_false, spC_nil, intsC_nil, List.length_nil, and_self, cond_true]) <;> simp
  | true =>
    (refine lwp_region hC ⟨[(4, { b := some false })], [], [(2, Small_i b a ⟨f, l, hs⟩ [(0, some 1), (1, some 2)])]⟩ (told1 _ (by rw [hP]; exact (calls_cons (Small_s _ _ _ _ hv0 hh0) calls_nil))) rfl ?_ ?_; rotate_left 1)
    · (repeat (first | (refine lwp_seq fun K hK => ?_) | (refine thenS_normal ?_; apply_assumption -exfalso -symm) | (refine thenS_exit ?_) | (refine thenS_ret ?_) | (refine inBlockS_normal ?_) | (refine inBlockS_ret ?_) | (refine inBlockS_hit rfl ?_) | (refine inBlockS_miss rfl ?_) | (refine lwp_block ?_) | (refine lwp_skip ?_) | (refine lwp_exit ?_) | (refine lwp_ret ?_) | (refine lwp_label ?_) | (refine lwp_region hC ⟨[], [], []⟩ (told0 _ _) rfl True.intro ?_) | (refine lwp_region hC ⟨[], [], []⟩ (told0 _ _) rfl (by ((try simp only [AllL, All, cd_p, cp_p, cv_p, InK, and_true, true_and]); all_goals ((repeat' (first | refine And.intro ?_ ?_ | intro _)) <;> first | omega | exact True.intro | assumption | (simp; done) | rfl | (simp_all; done) | (simp_all; omega)))) ?_)))
      (refine lwp_cond hC rfl (by first | exact True.intro | ((try simp only [AllL, All, cd_p, cp_p, cv_p, InK, and_true, true_and]); all_goals ((repeat' (first | refine And.intro ?_ ?_ | intro _)) <;> first | omega | exact True.intro | assumption | (simp; done) | rfl | (simp_all; done) | (simp_all; omega)))) (fun hb => ?_) (fun hb => ?_) <;> (try simp only [decide_eq_true_eq, decide_eq_false_iff_not, Bool.not_eq_true', Bool.not_eq_false', ne_eq, Decidable.not_not] at hb))
      · (repeat (first | (refine lwp_seq fun K hK => ?_) | (refine thenS_normal ?_; apply_assumption -exfalso -symm) | (refine thenS_exit ?_) | (refine thenS_ret ?_) | (refine inBlockS_normal ?_) | (refine inBlockS_ret ?_) | (refine inBlockS_hit rfl ?_) | (refine inBlockS_miss rfl ?_) | (refine lwp_block ?_) | (refine lwp_skip ?_) | (refine lwp_exit ?_) | (refine lwp_ret ?_) | (refine lwp_label ?_) | (refine lwp_region hC ⟨[], [], []⟩ (told0 _ _) rfl True.intro ?_) | (refine lwp_region hC ⟨[], [], []⟩ (told0 _ _) rfl (by ((try simp only [AllL, All, cd_p, cp_p, cv_p, InK, and_true, true_and]); all_goals ((repeat' (first | refine And.intro ?_ ?_ | intro _)) <;> first | omega | exact True.intro | assumption | (simp; done) | rfl | (simp_all; done) | (simp_all; omega)))) ?_)))
        (refine lwp_region hC ⟨[], [], [(0, Awake_i [(0, some 0)])]⟩ (told1 _ (by rw [hP]; exact (calls_cons (Awake_s _) calls_nil))) rfl ?_ ?_; rotate_left 1)
        · (repeat (first | (refine lwp_seq fun K hK => ?_) | (refine thenS_normal ?_; apply_assumption -exfalso -symm) | (refine thenS_exit ?_) | (refine thenS_ret ?_) | (refine inBlockS_normal ?_) | (refine inBlockS_ret ?_) | (refine inBlockS_hit rfl ?_) | (refine inBlockS_miss rfl ?_) | (refine lwp_block ?_) | (refine lwp_skip ?_) | (refine lwp_exit ?_) | (refine lwp_ret ?_) | (refine lwp_label ?_) | (refine lwp_region hC ⟨[], [], []⟩ (told0 _ _) rfl True.intro ?_) | (refine lwp_region hC ⟨[], [], []⟩ (told0 _ _) rfl (by ((try simp only [AllL, All, cd_p, cp_p, cv_p, InK, and_true, true_and]); all_goals ((repeat' (first | refine And.intro ?_ ?_ | intro _)) <;> first | omega | exact True.intro | assumption | (simp; done) | rfl | (simp_all; done) | (simp_all; omega)))) ?_)))
          (refine end_intro (by first | exact .inr rfl | exact .inl rfl) [] rfl ?_)
          ((try simp only [AllL, All, cd_p, cp_p, cv_p, InK, and_true, true_and]); all_goals ((repeat' (first | refine And.intro ?_ ?_ | intro _)) <;> first | omega | exact True.intro | assumption | (simp; done) | rfl | (simp_all; done) | (simp_all; omega)))
        · ((try simp only [AllL, All, cd_p, cp_p, cv_p, InK, and_true, true_and]); all_goals ((repeat' (first | refine And.intro ?_ ?_ | intro _)) <;> first | omega | exact True.intro | assumption | (simp; done) | rfl | (simp_all; done) | (simp_all; omega)))
      · obtain ⟨⟨hc, ht, hl, hn⟩, hv⟩ := smallB_ok hsm
        have hh : hs = [] := by
          simp only [bif_or, Bool.false_or, decide_eq_false_iff_not] at hb
          cases hs with
          | nil => rfl
          | cons x y => simp at hb
        subst hh
        clear hb hv0 hh0 hsm
        dsimp only at hl hn hv
        have hco := chordS_ok hc
        have hok := traceS_ok ht
        have f0 := hok.f0
        have f1 := hok.end_
        dsimp only at f0 f1
        have hsl : SmallL l := smallL_of fun x hx => by have := hv x hx; omega
        have hve : ∀ x ∈ l, readingS x = 0 := fun x hx => by have := hv x hx; unfold readingS; rw [withinS_eq]; omega
        have hX := vers_ok hc ht hsl hn
        have hAg := again_ok hc ht hX
        (repeat (first | (refine lwp_seq fun K hK => ?_) | (refine thenS_normal ?_; apply_assumption -exfalso -symm) | (refine thenS_exit ?_) | (refine thenS_ret ?_) | (refine inBlockS_normal ?_) | (refine inBlockS_ret ?_) | (refine inBlockS_hit rfl ?_) | (refine inBlockS_miss rfl ?_) | (refine lwp_block ?_) | (refine lwp_skip ?_) | (refine lwp_exit ?_) | (refine lwp_ret ?_) | (refine lwp_label ?_) | (refine lwp_region hC ⟨[], [], []⟩ (told0 _ _) rfl True.intro ?_) | (refine lwp_region hC ⟨[], [], []⟩ (told0 _ _) rfl (by ((try simp only [AllL, All, cd_p, cp_p, cv_p, InK, and_true, true_and]); all_goals ((repeat' (first | refine And.intro ?_ ?_ | intro _)) <;> first | omega | exact True.intro | assumption | (simp; done) | rfl | (simp_all; done) | (simp_all; omega)))) ?_)))
        (refine lwp_drawn2 hC (by rw [hP]; exact mixed) ⟨[], [], [(2, LOwn_i ⟨f, l, []⟩ [(0, some 1), (1, some 2)]), (3, PVersines_i b a ⟨f, l, []⟩ [(0, some 6), (1, some 7)])]⟩ (told1 _ (by rw [hP]; exact (calls_cons (LOwn_s _ _ (by dsimp only; omega) (by simp)) (calls_cons (PVersines_s _ _ _ _) calls_nil)))) [0, 0, 2, 7, 15, 31, 31, 0, 191, 511] 8 64 rfl ?_ ?_; rotate_left 1)
        · have hMv := fun n1 n2 n3 g (m1 : -128 ≤ n1 ∧ n1 ≤ 127) (m2 : -128 ≤ n2 ∧ n2 ≤ 127) (m3 : -128 ≤ n3 ∧ n3 ≤ 127) hgb hga hg1 hg32 => moved_ok (b := b) (a := a) (f := f) (l := l) (n1 := n1) (n2 := n2) (n3 := n3) (g := g) hc ht hv hl hn m1 m2 m3 hgb hga hg1 hg32
          have HMV := Lib.hid hMv
          clear hMv
          generalize VersinesS b a ⟨f, l, []⟩ = X at *
          have hRe := restored_ok hc ht hsl hve hn hX
          have hTo := fun k hk => torn_ok (k := k) hc ht hsl hve hn hX hk
          have HTO := Lib.hid hTo
          have x1 := hX.e
          have x2 := hX.ok
          have x3 := hX.len
          have x4 : X.1.holes.length = 0 := by rw [hX.holes]; rfl
          clear hTo
          have HX := Lib.hid hX
          have HAG := Lib.hid hAg
          have HRE := Lib.hid hRe
          clear hX hAg hRe
          (repeat (first | (refine lwp_seq fun K hK => ?_) | (refine thenS_normal ?_; apply_assumption -exfalso -symm) | (refine thenS_exit ?_) | (refine thenS_ret ?_) | (refine inBlockS_normal ?_) | (refine inBlockS_ret ?_) | (refine inBlockS_hit rfl ?_) | (refine inBlockS_miss rfl ?_) | (refine lwp_block ?_) | (refine lwp_skip ?_) | (refine lwp_exit ?_) | (refine lwp_ret ?_) | (refine lwp_label ?_) | (refine lwp_region hC ⟨[], [], []⟩ (told0 _ _) rfl True.intro ?_) | (refine lwp_region hC ⟨[], [], []⟩ (told0 _ _) rfl (by ((try simp only [AllL, All, cd_p, cp_p, cv_p, InK, and_true, true_and]); all_goals ((repeat' (first | refine And.intro ?_ ?_ | intro _)) <;> first | omega | exact True.intro | assumption | (simp; done) | rfl | (simp_all; done) | (simp_all; omega)))) ?_)))
          (refine lwp_region hC ⟨[(2, { b := some false })], [], [(4, Told_i X.1 [(0, some 8), (1, some 9)]), (5, RCheckTrace_i X.1 [(0, some 8), (1, some 9)])]⟩ (told1 _ (by rw [hP]; exact (calls_cons (Told_s _ _) (calls_cons (RCheckTrace_s _ _ (by omega) (by omega)) calls_nil)))) rfl ?_ ?_; rotate_left 1)
          · (repeat (first | (refine lwp_seq fun K hK => ?_) | (refine thenS_normal ?_; apply_assumption -exfalso -symm) | (refine thenS_exit ?_) | (refine thenS_ret ?_) | (refine inBlockS_normal ?_) | (refine inBlockS_ret ?_) | (refine inBlockS_hit rfl ?_) | (refine inBlockS_miss rfl ?_) | (refine lwp_block ?_) | (refine lwp_skip ?_) | (refine lwp_exit ?_) | (refine lwp_ret ?_) | (refine lwp_label ?_) | (refine lwp_region hC ⟨[], [], []⟩ (told0 _ _) rfl True.intro ?_) | (refine lwp_region hC ⟨[], [], []⟩ (told0 _ _) rfl (by ((try simp only [AllL, All, cd_p, cp_p, cv_p, InK, and_true, true_and]); all_goals ((repeat' (first | refine And.intro ?_ ?_ | intro _)) <;> first | omega | exact True.intro | assumption | (simp; done) | rfl | (simp_all; done) | (simp_all; omega)))) ?_)))
            (refine lwp_cond hC rfl (by first | exact True.intro | ((try simp only [AllL, All, cd_p, cp_p, cv_p, InK, and_true, true_and]); all_goals ((repeat' (first | refine And.intro ?_ ?_ | intro _)) <;> first | omega | exact True.intro | assumption | (simp; done) | rfl | (simp_all; done) | (simp_all; omega)))) (fun hb => ?_) (fun hb => ?_) <;> (try simp only [decide_eq_true_eq, decide_eq_false_iff_not, Bool.not_eq_true', Bool.not_eq_false', ne_eq, Decidable.not_not] at hb))
            · simp only [bif_or, Bool.false_or, Bool.or_eq_true, decide_eq_true_eq] at hb
              omega
            · clear hb
              (repeat (first | (refine lwp_seq fun K hK => ?_) | (refine thenS_normal ?_; apply_assumption -exfalso -symm) | (refine thenS_exit ?_) | (refine thenS_ret ?_) | (refine inBlockS_normal ?_) | (refine inBlockS_ret ?_) | (refine inBlockS_hit rfl ?_) | (refine inBlockS_miss rfl ?_) | (refine lwp_block ?_) | (refine lwp_skip ?_) | (refine lwp_exit ?_) | (refine lwp_ret ?_) | (refine lwp_label ?_) | (refine lwp_region hC ⟨[], [], []⟩ (told0 _ _) rfl True.intro ?_) | (refine lwp_region hC ⟨[], [], []⟩ (told0 _ _) rfl (by ((try simp only [AllL, All, cd_p, cp_p, cv_p, InK, and_true, true_and]); all_goals ((repeat' (first | refine And.intro ?_ ?_ | intro _)) <;> first | omega | exact True.intro | assumption | (simp; done) | rfl | (simp_all; done) | (simp_all; omega)))) ?_)))
              (refine lwp_drawn2 hC (by rw [hP]; exact mixed) ⟨[], [], [(2, Told_i X.1 [(0, some 8), (1, some 9)]), (3, LOwn_i X.1 [(0, some 8), (1, some 9)]), (5, Ints_i (l.take (b + a).toNat) [(0, some 12)]), (6, PRestored_i b a X.1 (l.take (b + a).toNat) [(0, some 13), (1, some 14), (2, some 15)])]⟩ (told1 _ (by rw [hP]; exact (calls_cons (Told_s _ _) (calls_cons (LOwn_s _ _ (by omega) (by omega)) (calls_cons (Ints_s _ _ (by rw [List.length_take]; omega)) (calls_cons (PRestored_s _ _ _ _ _) calls_nil)))))) [0, 0, 2, 6, 0, 30, 63, 127, 255, 255, 0, 1535, 4095] 11 512 rfl ?_ ?_; rotate_left 1)
              · have hend : (l.take (b + a).toNat).length = (b + a).toNat := by rw [List.length_take]; omega
                have y1 : (RestoredS b a X.1 (l.take (b + a).toNat)).2 = 0 := by rw [HRE.out]
                have y2 : (RestoredS b a X.1 (l.take (b + a).toNat)).1.vals.length = l.length := by rw [HRE.out]
                have y3 : (RestoredS b a X.1 (l.take (b + a).toNat)).1.holes.length = 0 := by rw [HRE.out]; rfl
                have y4 : sameB (RestoredS b a X.1 (l.take (b + a).toNat)).1 ⟨f, l, []⟩ = true := by rw [HRE.out]; simp [sameB]
                clear HRE
                generalize RestoredS b a X.1 (l.take (b + a).toNat) = Y at *
                (repeat (first | (refine lwp_seq fun K hK => ?_) | (refine thenS_normal ?_; apply_assumption -exfalso -symm) | (refine thenS_exit ?_) | (refine thenS_ret ?_) | (refine inBlockS_normal ?_) | (refine inBlockS_ret ?_) | (refine inBlockS_hit rfl ?_) | (refine inBlockS_miss rfl ?_) | (refine lwp_block ?_) | (refine lwp_skip ?_) | (refine lwp_exit ?_) | (refine lwp_ret ?_) | (refine lwp_label ?_) | (refine lwp_region hC ⟨[], [], []⟩ (told0 _ _) rfl True.intro ?_) | (refine lwp_region hC ⟨[], [], []⟩ (told0 _ _) rfl (by ((try simp only [AllL, All, cd_p, cp_p, cv_p, InK, and_true, true_and]); all_goals ((repeat' (first | refine And.intro ?_ ?_ | intro _)) <;> first | omega | exact True.intro | assumption | (simp; done) | rfl | (simp_all; done) | (simp_all; omega)))) ?_)))
                (refine lwp_drawn hC (by rw [hP]; exact mixed) ⟨[], [], [(2, LOwn_i ⟨f, l, []⟩ [(0, some 1), (1, some 2)]), (4, Told_i X.1 [(0, some 8), (1, some 9)]), (5, LOwn_i X.1 [(0, some 8), (1, some 9)]), (6, PAgain_i b a ⟨f, l, []⟩ X.1 [(0, some 20), (1, some 21), (2, some 22), (3, some 23)])]⟩ (told1 _ (by rw [hP]; exact (calls_cons (LOwn_s _ _ (by dsimp only; omega) (by simp)) (calls_cons (Told_s _ _) (calls_cons (LOwn_s _ _ (by omega) (by omega)) (calls_cons (PAgain_s _ _ _ _ _) calls_nil)))))) [0, 0, 2, 0, 14, 30, 63, 127, 255, 255, 511, 2047] 11 rfl ?_ ?_; rotate_left 1)
                · have z1 : (AgainS b a ⟨f, l, []⟩ X.1).1 = true := by rw [HAG.out]
                  have z2 : (AgainS b a ⟨f, l, []⟩ X.1).2 = 0 := by rw [HAG.out]
                  clear HAG
                  generalize AgainS b a ⟨f, l, []⟩ X.1 = A at *
                  (repeat (first | (refine lwp_seq fun K hK => ?_) | (refine thenS_normal ?_; apply_assumption -exfalso -symm) | (refine thenS_exit ?_) | (refine thenS_ret ?_) | (refine inBlockS_normal ?_) | (refine inBlockS_ret ?_) | (refine inBlockS_hit rfl ?_) | (refine inBlockS_miss rfl ?_) | (refine lwp_block ?_) | (refine lwp_skip ?_) | (refine lwp_exit ?_) | (refine lwp_ret ?_) | (refine lwp_label ?_) | (refine lwp_region hC ⟨[], [], []⟩ (told0 _ _) rfl True.intro ?_) | (refine lwp_region hC ⟨[], [], []⟩ (told0 _ _) rfl (by ((try simp only [AllL, All, cd_p, cp_p, cv_p, InK, and_true, true_and]); all_goals ((repeat' (first | refine And.intro ?_ ?_ | intro _)) <;> first | omega | exact True.intro | assumption | (simp; done) | rfl | (simp_all; done) | (simp_all; omega)))) ?_)))
                  (refine lwp_drawn hC (by rw [hP]; exact mixed) ⟨[(4, { b := some false }), (11, { b := some false })], [], [(6, Told_i Y.1 [(0, some 16), (1, some 17)]), (8, Same_i Y.1 ⟨f, l, []⟩ [(0, some 16), (1, some 17), (2, some 1), (3, some 2)])]⟩ (told1 _ (by rw [hP]; exact (calls_cons (Told_s _ _) (calls_cons (Same_s _ _ _ (by omega) (by omega)) calls_nil)))) [0, 0, 3, 7, 15, 31, 63, 31, 255, 511, 1023, 2047, 4095, 8191, 16383] 8 rfl ?_ ?_; rotate_left 1)
                  · (repeat (first | (refine lwp_seq fun K hK => ?_) | (refine thenS_normal ?_; apply_assumption -exfalso -symm) | (refine thenS_exit ?_) | (refine thenS_ret ?_) | (refine inBlockS_normal ?_) | (refine inBlockS_ret ?_) | (refine inBlockS_hit rfl ?_) | (refine inBlockS_miss rfl ?_) | (refine lwp_block ?_) | (refine lwp_skip ?_) | (refine lwp_exit ?_) | (refine lwp_ret ?_) | (refine lwp_label ?_) | (refine lwp_region hC ⟨[], [], []⟩ (told0 _ _) rfl True.intro ?_) | (refine lwp_region hC ⟨[], [], []⟩ (told0 _ _) rfl (by ((try simp only [AllL, All, cd_p, cp_p, cv_p, InK, and_true, true_and]); all_goals ((repeat' (first | refine And.intro ?_ ?_ | intro _)) <;> first | omega | exact True.intro | assumption | (simp; done) | rfl | (simp_all; done) | (simp_all; omega)))) ?_)))
                    (refine lwp_cond hC rfl (by first | exact True.intro | ((try simp only [AllL, All, cd_p, cp_p, cv_p, InK, and_true, true_and]); all_goals ((repeat' (first | refine And.intro ?_ ?_ | intro _)) <;> first | omega | exact True.intro | assumption | (simp; done) | rfl | (simp_all; done) | (simp_all; omega)))) (fun hb => ?_) (fun hb => ?_) <;> (try simp only [decide_eq_true_eq, decide_eq_false_iff_not, Bool.not_eq_true', Bool.not_eq_false', ne_eq, Decidable.not_not] at hb))
                    · simp [z1] at hb
                    · clear hb
                      (repeat (first | (refine lwp_seq fun K hK => ?_) | (refine thenS_normal ?_; apply_assumption -exfalso -symm) | (refine thenS_exit ?_) | (refine thenS_ret ?_) | (refine inBlockS_normal ?_) | (refine inBlockS_ret ?_) | (refine inBlockS_hit rfl ?_) | (refine inBlockS_miss rfl ?_) | (refine lwp_block ?_) | (refine lwp_skip ?_) | (refine lwp_exit ?_) | (refine lwp_ret ?_) | (refine lwp_label ?_) | (refine lwp_region hC ⟨[], [], []⟩ (told0 _ _) rfl True.intro ?_) | (refine lwp_region hC ⟨[], [], []⟩ (told0 _ _) rfl (by ((try simp only [AllL, All, cd_p, cp_p, cv_p, InK, and_true, true_and]); all_goals ((repeat' (first | refine And.intro ?_ ?_ | intro _)) <;> first | omega | exact True.intro | assumption | (simp; done) | rfl | (simp_all; done) | (simp_all; omega)))) ?_)))
                      (refine lwp_region hC ⟨[], [], [(1, Told_i X.1 [(0, some 8), (1, some 9)]), (2, ROwn_i X.1 [(0, some 8), (1, some 9)])]⟩ (told1 _ (by rw [hP]; exact (calls_cons (Told_s _ _) (calls_cons (ROwn_s _ _ (by omega) (by omega)) calls_nil)))) rfl ?_ ?_; rotate_left 1)
                      · obtain ⟨k, hk, hkl⟩ : ∃ k : Nat, (n0 + 128).tmod (X.1.vals.length : Int) = (k : Int) ∧ k < X.1.vals.length := by
                          have hp : (0 : Int) < (X.1.vals.length : Int) := by omega
                          have h1 := Int.emod_nonneg (n0 + 128) (show (X.1.vals.length : Int) ≠ 0 by omega)
                          have h2 := Int.emod_lt_of_pos (n0 + 128) hp
                          exact ⟨((n0 + 128) % (X.1.vals.length : Int)).toNat, by rw [Int.tmod_eq_emod_of_nonneg (by omega)]; omega, by omega⟩
                        have hkk : ((k : Int)).toNat = k := Int.toNat_natCast k
                        have HT := HTO.out k hkl
                        (repeat (first | (refine lwp_seq fun K hK => ?_) | (refine thenS_normal ?_; apply_assumption -exfalso -symm) | (refine thenS_exit ?_) | (refine thenS_ret ?_) | (refine inBlockS_normal ?_) | (refine inBlockS_ret ?_) | (refine inBlockS_hit rfl ?_) | (refine inBlockS_miss rfl ?_) | (refine lwp_block ?_) | (refine lwp_skip ?_) | (refine lwp_exit ?_) | (refine lwp_ret ?_) | (refine lwp_label ?_) | (refine lwp_region hC ⟨[], [], []⟩ (told0 _ _) rfl True.intro ?_) | (refine lwp_region hC ⟨[], [], []⟩ (told0 _ _) rfl (by ((try simp only [AllL, All, cd_p, cp_p, cv_p, InK, and_true, true_and]); all_goals ((repeat' (first | refine And.intro ?_ ?_ | intro _)) <;> first | omega | exact True.intro | assumption | (simp; done) | rfl | (simp_all; done) | (simp_all; omega)))) ?_)))
                        simp only [hk, hkk]
                        (refine lwp_drawn2 hC (by rw [hP]; exact mixed) ⟨[], [], [(2, LOwn_i (tornT X.1 k) [(0, some 24), (1, some 28)]), (4, Ints_i (l.take (b + a).toNat) [(0, some 12)]), (5, PRestored_i b a (tornT X.1 k) (l.take (b + a).toNat) [(0, some 31), (1, some 32), (2, some 33)])]⟩ (told1 _ (by rw [hP]; exact (calls_cons (LOwn_s _ _ (by unfold tornT; dsimp only; rw [List.length_set]; omega) (by unfold tornT; simp)) (calls_cons (Ints_s _ _ (by rw [List.length_take]; omega)) (calls_cons (PRestored_s _ _ _ _ _) calls_nil))))) [0, 0, 2, 0, 14, 31, 63, 127, 127, 0, 767, 2047] 10 256 rfl ?_ ?_; rotate_left 1)
                        · have w1 := HT.e
                          have w2 := HT.ok
                          have w3 := HT.len
                          have w4 := HT.first
                          have w5 := HT.hol
                          have HTK := Lib.hid HT.known
                          have HTV := Lib.hid HT.val
                          clear HT HTO
                          generalize RestoredS b a (tornT X.1 k) (l.take (b + a).toNat) = Z at *
                          (repeat (first | (refine lwp_seq fun K hK => ?_) | (refine thenS_normal ?_; apply_assumption -exfalso -symm) | (refine thenS_exit ?_) | (refine thenS_ret ?_) | (refine inBlockS_normal ?_) | (refine inBlockS_ret ?_) | (refine inBlockS_hit rfl ?_) | (refine inBlockS_miss rfl ?_) | (refine lwp_block ?_) | (refine lwp_skip ?_) | (refine lwp_exit ?_) | (refine lwp_ret ?_) | (refine lwp_label ?_) | (refine lwp_region hC ⟨[], [], []⟩ (told0 _ _) rfl True.intro ?_) | (refine lwp_region hC ⟨[], [], []⟩ (told0 _ _) rfl (by ((try simp only [AllL, All, cd_p, cp_p, cv_p, InK, and_true, true_and]); all_goals ((repeat' (first | refine And.intro ?_ ?_ | intro _)) <;> first | omega | exact True.intro | assumption | (simp; done) | rfl | (simp_all; done) | (simp_all; omega)))) ?_)))
                          (refine lwp_region hC ⟨[(2, { b := some false })], [], [(4, Told_i Z.1 [(0, some 34), (1, some 35)]), (5, RCheckTrace_i Z.1 [(0, some 34), (1, some 35)])]⟩ (told1 _ (by rw [hP]; exact (calls_cons (Told_s _ _) (calls_cons (RCheckTrace_s _ _ (by omega) (by omega)) calls_nil)))) rfl ?_ ?_; rotate_left 1)
                          · (repeat (first | (refine lwp_seq fun K hK => ?_) | (refine thenS_normal ?_; apply_assumption -exfalso -symm) | (refine thenS_exit ?_) | (refine thenS_ret ?_) | (refine inBlockS_normal ?_) | (refine inBlockS_ret ?_) | (refine inBlockS_hit rfl ?_) | (refine inBlockS_miss rfl ?_) | (refine lwp_block ?_) | (refine lwp_skip ?_) | (refine lwp_exit ?_) | (refine lwp_ret ?_) | (refine lwp_label ?_) | (refine lwp_region hC ⟨[], [], []⟩ (told0 _ _) rfl True.intro ?_) | (refine lwp_region hC ⟨[], [], []⟩ (told0 _ _) rfl (by ((try simp only [AllL, All, cd_p, cp_p, cv_p, InK, and_true, true_and]); all_goals ((repeat' (first | refine And.intro ?_ ?_ | intro _)) <;> first | omega | exact True.intro | assumption | (simp; done) | rfl | (simp_all; done) | (simp_all; omega)))) ?_)))
                            (refine lwp_cond hC rfl (by first | exact True.intro | ((try simp only [AllL, All, cd_p, cp_p, cv_p, InK, and_true, true_and]); all_goals ((repeat' (first | refine And.intro ?_ ?_ | intro _)) <;> first | omega | exact True.intro | assumption | (simp; done) | rfl | (simp_all; done) | (simp_all; omega)))) (fun hb => ?_) (fun hb => ?_) <;> (try simp only [decide_eq_true_eq, decide_eq_false_iff_not, Bool.not_eq_true', Bool.not_eq_false', ne_eq, Decidable.not_not] at hb))
                            · simp only [bif_or, Bool.false_or, Bool.or_eq_true, decide_eq_true_eq] at hb
                              omega
                            · clear hb
                              (repeat (first | (refine lwp_seq fun K hK => ?_) | (refine thenS_normal ?_; apply_assumption -exfalso -symm) | (refine thenS_exit ?_) | (refine thenS_ret ?_) | (refine inBlockS_normal ?_) | (refine inBlockS_ret ?_) | (refine inBlockS_hit rfl ?_) | (refine inBlockS_miss rfl ?_) | (refine lwp_block ?_) | (refine lwp_skip ?_) | (refine lwp_exit ?_) | (refine lwp_ret ?_) | (refine lwp_label ?_) | (refine lwp_region hC ⟨[], [], []⟩ (told0 _ _) rfl True.intro ?_) | (refine lwp_region hC ⟨[], [], []⟩ (told0 _ _) rfl (by ((try simp only [AllL, All, cd_p, cp_p, cv_p, InK, and_true, true_and]); all_goals ((repeat' (first | refine And.intro ?_ ?_ | intro _)) <;> first | omega | exact True.intro | assumption | (simp; done) | rfl | (simp_all; done) | (simp_all; omega)))) ?_)))
                              refine lwp_loop (fun i : Nat => ⟨[(176, i64 i), (175, i64 l.length), (18, .sl 38 l.length), (16, .ptr 36 0 0 0), (15, i64 k), (7, .ptr 10 0 0 0), (5, .ptr 5 0 0 0), (4, .ptr 4 0 0 0), (3, .ptr 3 0 0 0)], [(38, .row 4 l.length 1 (.bools (knRow b.toNat a.toNat k l.length i))), (36, .blk 30 [i64 Z.1.first, .sl 34 Z.1.vals.length, .sl 35 Z.1.holes.length]), (34, .row 3 Z.1.vals.length 1 (.ints .i64 Z.1.vals)), (35, .row 92 Z.1.holes.length 2 (spC Z.1.holes)), (10, .blk 30 [i64 X.1.first, .sl 8 X.1.vals.length, .sl 9 X.1.holes.length]), (8, .ro X.1.vals.length 1 (.ints .i64 X.1.vals)), (9, .ro X.1.holes.length 2 (spC X.1.holes)), (5, .blk 87 [.lit (.int .i8 n0), .lit (.int .i8 n1), .lit (.int .i8 n2), .lit (.int .i8 n3)]), (4, .blk 27 [i64 f, .sl 1 l.length, .sl 2 0]), (3, .blk 23 [i64 b, i64 a]), (0, powC), (1, .ro l.length 1 (.ints .i64 l)), (2, .ro 0 2 (spC []))], 39⟩) (fun i => i ≤ l.length) (fun i => l.length - i) 0 ⟨?_, sub_intro hm [(0, some 0), (1, some 1), (2, some 2), (3, some 3), (4, some 4), (5, some 5), (8, some 8), (9, some 9), (10, some 10), (34, some 34), (35, some 35), (36, some 36), (38, some 38)] rfl ?_⟩ ?_
                              · exact Nat.zero_le _
                              · have hk0 : knRow b.toNat a.toNat k l.length 0 = List.replicate l.length false := by unfold knRow knL; simp
                                simp only [All, cd_p, cp_p, cv_p, Int.toNat_natCast]
                                (repeat' refine And.intro ?_ ?_) <;> first | trivial | rfl | exact hk0 | omega
                              · rintro i hi
                                have hii : ((i : Int)).toNat = i := Int.toNat_natCast i
                                (repeat (first | (refine lwp_seq fun K hK => ?_) | (refine thenS_normal ?_; apply_assumption -exfalso -symm) | (refine thenS_exit ?_) | (refine thenS_ret ?_) | (refine inBlockS_normal ?_) | (refine inBlockS_ret ?_) | (refine inBlockS_hit rfl ?_) | (refine inBlockS_miss rfl ?_) | (refine lwp_block ?_) | (refine lwp_skip ?_) | (refine lwp_exit ?_) | (refine lwp_ret ?_) | (refine lwp_label ?_) | (refine lwp_region hC ⟨[], [], []⟩ (told0 _ _) rfl True.intro ?_) | (refine lwp_region hC ⟨[], [], []⟩ (told0 _ _) rfl (by ((try simp only [AllL, All, cd_p, cp_p, cv_p, InK, and_true, true_and]); all_goals ((repeat' (first | refine And.intro ?_ ?_ | intro _)) <;> first | omega | exact True.intro | assumption | (simp; done) | rfl | (simp_all; done) | (simp_all; omega)))) ?_)))
                                (refine lwp_cond hC rfl (by first | exact True.intro | ((try simp only [AllL, All, cd_p, cp_p, cv_p, InK, and_true, true_and]); all_goals ((repeat' (first | refine And.intro ?_ ?_ | intro _)) <;> first | omega | exact True.intro | assumption | (simp; done) | rfl | (simp_all; done) | (simp_all; omega)))) (fun hb => ?_) (fun hb => ?_) <;> (try simp only [decide_eq_true_eq, decide_eq_false_iff_not, Bool.not_eq_true', Bool.not_eq_false', ne_eq, Decidable.not_not] at hb))
                                · have hi2 : i < l.length := by omega
                                  have hrl := knRow_len b.toNat a.toNat k l.length i hi
                                  have hex := knF_expr hco.1.1 hco.2.1 k l.length i
                                  have hse := knRow_set b.toNat a.toNat k l.length i hi2
                                  have hrl2 := knRow_len b.toNat a.toNat k l.length (i + 1) hi2
                                  have hrg := knRow_get b.toNat a.toNat k l.length (i + 1) i (by omega)
                                  have HEX := Lib.hid hex
                                  have HSE := Lib.hid hse
                                  have HRG := Lib.hid hrg
                                  clear hex hse hrg
                                  have hkn : decide (knownB Z.1.holes i ≠ knF b.toNat a.toNat k i) = false := decide_eq_false (by rw [HTK.out i hi2]; simp)
                                  have hvl : (bif knF b.toNat a.toNat k i then decide (Z.1.vals.getD i 0 ≠ l.getD i 0) else false) = false := by
                                    cases e : knF b.toNat a.toNat k i with
                                    | false => rfl
                                    | true => exact decide_eq_false (by rw [HTV.out i hi2 e]; simp)
                                  have HVL := Lib.hid hvl
                                  clear hvl
                                  (repeat (first | (refine lwp_seq fun K hK => ?_) | (refine thenS_normal ?_; apply_assumption -exfalso -symm) | (refine thenS_exit ?_) | (refine thenS_ret ?_) | (refine inBlockS_normal ?_) | (refine inBlockS_ret ?_) | (refine inBlockS_hit rfl ?_) | (refine inBlockS_miss rfl ?_) | (refine lwp_block ?_) | (refine lwp_skip ?_) | (refine lwp_exit ?_) | (refine lwp_ret ?_) | (refine lwp_label ?_) | (refine lwp_region hC ⟨[], [], []⟩ (told0 _ _) rfl True.intro ?_) | (refine lwp_region hC ⟨[], [], []⟩ (told0 _ _) rfl (by ((try simp only [AllL, All, cd_p, cp_p, cv_p, InK, and_true, true_and]); all_goals ((repeat' (first | refine And.intro ?_ ?_ | intro _)) <;> first | omega | exact True.intro | assumption | (simp; done) | rfl | (simp_all; done) | (simp_all; omega)))) ?_)))
                                  simp only [hii]
                                  rw [HEX.out, HSE.out]
                                  (refine lwp_drawn2 hC (by rw [hP]; exact mixed) ⟨[(9, { b := some false })], [], [(1, Told_i Z.1 [(0, some 34), (1, some 35)]), (3, Known_i Z.1 i [(0, some 34), (1, some 35)])]⟩ (told1 _ (by rw [hP]; exact (calls_cons (Told_s _ _) (calls_cons (Known_s _ _ _ (by omega)) calls_nil)))) [0, 1, 0, 7, 0, 0, 48, 112, 255, 511, 1023, 1023, 4095, 8191, 16383, 32767, 65535, 32767, 262143, 524287, 32767, 1081343, 32767, 7372799, 15761407, 33554431, 67108863, 134217727] 28 0 rfl ?_ ?_; rotate_left 1)
                                  · (repeat (first | (refine lwp_seq fun K hK => ?_) | (refine thenS_normal ?_; apply_assumption -exfalso -symm) | (refine thenS_exit ?_) | (refine thenS_ret ?_) | (refine inBlockS_normal ?_) | (refine inBlockS_ret ?_) | (refine inBlockS_hit rfl ?_) | (refine inBlockS_miss rfl ?_) | (refine lwp_block ?_) | (refine lwp_skip ?_) | (refine lwp_exit ?_) | (refine lwp_ret ?_) | (refine lwp_label ?_) | (refine lwp_region hC ⟨[], [], []⟩ (told0 _ _) rfl True.intro ?_) | (refine lwp_region hC ⟨[], [], []⟩ (told0 _ _) rfl (by ((try simp only [AllL, All, cd_p, cp_p, cv_p, InK, and_true, true_and]); all_goals ((repeat' (first | refine And.intro ?_ ?_ | intro _)) <;> first | omega | exact True.intro | assumption | (simp; done) | rfl | (simp_all; done) | (simp_all; omega)))) ?_)))
                                    simp only [hii, HRG.out]
                                    (refine lwp_cond hC rfl (by first | exact True.intro | ((try simp only [AllL, All, cd_p, cp_p, cv_p, InK, and_true, true_and]); all_goals ((repeat' (first | refine And.intro ?_ ?_ | intro _)) <;> first | omega | exact True.intro | assumption | (simp; done) | rfl | (simp_all; done) | (simp_all; omega)))) (fun hb => ?_) (fun hb => ?_) <;> (try simp only [decide_eq_true_eq, decide_eq_false_iff_not, Bool.not_eq_true', Bool.not_eq_false', ne_eq, Decidable.not_not] at hb))
                                    · rw [bif_or, Bool.false_or, HVL.out] at hb
                                      cases hb
                                    · clear hb
                                      (repeat (first | (refine lwp_seq fun K hK => ?_) | (refine thenS_normal ?_; apply_assumption -exfalso -symm) | (refine thenS_exit ?_) | (refine thenS_ret ?_) | (refine inBlockS_normal ?_) | (refine inBlockS_ret ?_) | (refine inBlockS_hit rfl ?_) | (refine inBlockS_miss rfl ?_) | (refine lwp_block ?_) | (refine lwp_skip ?_) | (refine lwp_exit ?_) | (refine lwp_ret ?_) | (refine lwp_label ?_) | (refine lwp_region hC ⟨[], [], []⟩ (told0 _ _) rfl True.intro ?_) | (refine lwp_region hC ⟨[], [], []⟩ (told0 _ _) rfl (by ((try simp only [AllL, All, cd_p, cp_p, cv_p, InK, and_true, true_and]); all_goals ((repeat' (first | refine And.intro ?_ ?_ | intro _)) <;> first | omega | exact True.intro | assumption | (simp; done) | rfl | (simp_all; done) | (simp_all; omega)))) ?_)))
                                      refine thenS_normal ⟨i + 1, ?_, ?_, sub_intro hm [(0, some 0), (1, some 1), (2, some 2), (3, some 3), (4, some 4), (5, some 5), (8, some 8), (9, some 9), (10, some 10), (34, some 34), (35, some 35), (36, some 36), (38, some 38)] rfl ?_⟩
                                      · exact hi2
                                      · omega
                                      · simp only [All, cd_p, cp_p, cv_p]
                                        (repeat' refine And.intro ?_ ?_) <;> first | trivial | rfl | omega
                                  · simp only [AllL, All, cd_p, cp_p, cv_p, InK, hii, HRG.out, hkn]
                                    (repeat' (first | refine And.intro ?_ ?_ | intro _)) <;> first | omega | trivial | rfl | assumption | (simp; done) | (rw [HTK.out i hi2]; simp)
                                · clear HTK HTV
                                  (repeat (first | (refine lwp_seq fun K hK => ?_) | (refine thenS_normal ?_; apply_assumption -exfalso -symm) | (refine thenS_exit ?_) | (refine thenS_ret ?_) | (refine inBlockS_normal ?_) | (refine inBlockS_ret ?_) | (refine inBlockS_hit rfl ?_) | (refine inBlockS_miss rfl ?_) | (refine lwp_block ?_) | (refine lwp_skip ?_) | (refine lwp_exit ?_) | (refine lwp_ret ?_) | (refine lwp_label ?_) | (refine lwp_region hC ⟨[], [], []⟩ (told0 _ _) rfl True.intro ?_) | (refine lwp_region hC ⟨[], [], []⟩ (told0 _ _) rfl (by ((try simp only [AllL, All, cd_p, cp_p, cv_p, InK, and_true, true_and]); all_goals ((repeat' (first | refine And.intro ?_ ?_ | intro _)) <;> first | omega | exact True.intro | assumption | (simp; done) | rfl | (simp_all; done) | (simp_all; omega)))) ?_)))
                                  (refine lwp_region hC ⟨[], [], [(1, ROwn_i ⟨f, l, []⟩ [(0, some 1), (1, some 2)])]⟩ (told1 _ (by rw [hP]; exact (calls_cons (ROwn_s _ _ (by dsimp only; omega) (by simp)) calls_nil))) rfl ?_ ?_; rotate_left 1)
                                  · (repeat (first | (refine lwp_seq fun K hK => ?_) | (refine thenS_normal ?_; apply_assumption -exfalso -symm) | (refine thenS_exit ?_) | (refine thenS_ret ?_) | (refine inBlockS_normal ?_) | (refine inBlockS_ret ?_) | (refine inBlockS_hit rfl ?_) | (refine inBlockS_miss rfl ?_) | (refine lwp_block ?_) | (refine lwp_skip ?_) | (refine lwp_exit ?_) | (refine lwp_ret ?_) | (refine lwp_label ?_) | (refine lwp_region hC ⟨[], [], []⟩ (told0 _ _) rfl True.intro ?_) | (refine lwp_region hC ⟨[], [], []⟩ (told0 _ _) rfl (by ((try simp only [AllL, All, cd_p, cp_p, cv_p, InK, and_true, true_and]); all_goals ((repeat' (first | refine And.intro ?_ ?_ | intro _)) <;> first | omega | exact True.intro | assumption | (simp; done) | rfl | (simp_all; done) | (simp_all; omega)))) ?_)))
                                    have hbn : ((b.toNat : Nat) : Int) = b := by omega
                                    have han : ((a.toNat : Nat) : Int) = a := by omega
                                    (refine lwp_region hC ⟨[], [], [(4, Divisor_i b.toNat a.toNat)]⟩ (told1 _ (by rw [hP]; exact (calls_cons (Divisor_s _ _ (by omega) (by omega)) calls_nil))) rfl ?_ ?_; rotate_left 1)
                                    · have hg1 : 1 ≤ Nat.gcd b.toNat a.toNat := Nat.gcd_pos_of_pos_left _ (by omega)
                                      have hg2 : Nat.gcd b.toNat a.toNat ≤ 32 := Nat.le_trans (Nat.gcd_le_left _ (by omega)) (by omega)
                                      have hQ := HMV.out n1 n2 n3 _ m1 m2 m3 (Nat.gcd_dvd_left b.toNat a.toNat) (Nat.gcd_dvd_right b.toNat a.toNat) hg1 hg2
                                      have HQ := Lib.hid hQ
                                      clear hQ HMV
                                      generalize Nat.gcd b.toNat a.toNat = g at *
                                      (repeat (first | (refine lwp_seq fun K hK => ?_) | (refine thenS_normal ?_; apply_assumption -exfalso -symm) | (refine thenS_exit ?_) | (refine thenS_ret ?_) | (refine inBlockS_normal ?_) | (refine inBlockS_ret ?_) | (refine inBlockS_hit rfl ?_) | (refine inBlockS_miss rfl ?_) | (refine lwp_block ?_) | (refine lwp_skip ?_) | (refine lwp_exit ?_) | (refine lwp_ret ?_) | (refine lwp_label ?_) | (refine lwp_region hC ⟨[], [], []⟩ (told0 _ _) rfl True.intro ?_) | (refine lwp_region hC ⟨[], [], []⟩ (told0 _ _) rfl (by ((try simp only [AllL, All, cd_p, cp_p, cv_p, InK, and_true, true_and]); all_goals ((repeat' (first | refine And.intro ?_ ?_ | intro _)) <;> first | omega | exact True.intro | assumption | (simp; done) | rfl | (simp_all; done) | (simp_all; omega)))) ?_)))
                                      refine lwp_loop (fun j : Nat => ⟨[(250, i64 j), (249, i64 l.length), (22, i64 g), (21, .ptr 41 0 0 0), (7, .ptr 10 0 0 0), (5, .ptr 5 0 0 0), (3, .ptr 3 0 0 0)], [(39, .row 3 l.length 1 (.ints .i64 (movedK l n1 n2 n3 g j))), (40, .row 92 0 2 (spC [])), (41, .blk 27 [i64 f, .sl 39 l.length, .sl 40 0]), (10, .blk 30 [i64 X.1.first, .sl 8 X.1.vals.length, .sl 9 X.1.holes.length]), (8, .ro X.1.vals.length 1 (.ints .i64 X.1.vals)), (9, .ro X.1.holes.length 2 (spC X.1.holes)), (5, .blk 87 [.lit (.int .i8 n0), .lit (.int .i8 n1), .lit (.int .i8 n2), .lit (.int .i8 n3)]), (3, .blk 23 [i64 b, i64 a]), (0, powC), (1, .ro l.length 1 (.ints .i64 l)), (2, .ro 0 2 (spC []))], 43⟩) (fun j => j ≤ l.length) (fun j => l.length - j) 0 ⟨?_, sub_intro hm [(0, some 0), (1, some 1), (2, some 2), (3, some 3), (5, some 5), (8, some 8), (9, some 9), (10, some 10), (39, some 39), (40, some 40), (41, some 41)] rfl ?_⟩ ?_
                                      · exact Nat.zero_le _
                                      · simp only [All, cd_p, cp_p, cv_p, movedK_zero]
                                        (repeat' refine And.intro ?_ ?_) <;> first | trivial | rfl | omega
                                      · rintro j hj
                                        have hjj : ((j : Int)).toNat = j := Int.toNat_natCast j
                                        (repeat (first | (refine lwp_seq fun K hK => ?_) | (refine thenS_normal ?_; apply_assumption -exfalso -symm) | (refine thenS_exit ?_) | (refine thenS_ret ?_) | (refine inBlockS_normal ?_) | (refine inBlockS_ret ?_) | (refine inBlockS_hit rfl ?_) | (refine inBlockS_miss rfl ?_) | (refine lwp_block ?_) | (refine lwp_skip ?_) | (refine lwp_exit ?_) | (refine lwp_ret ?_) | (refine lwp_label ?_) | (refine lwp_region hC ⟨[], [], []⟩ (told0 _ _) rfl True.intro ?_) | (refine lwp_region hC ⟨[], [], []⟩ (told0 _ _) rfl (by ((try simp only [AllL, All, cd_p, cp_p, cv_p, InK, and_true, true_and]); all_goals ((repeat' (first | refine And.intro ?_ ?_ | intro _)) <;> first | omega | exact True.intro | assumption | (simp; done) | rfl | (simp_all; done) | (simp_all; omega)))) ?_)))
                                        (refine lwp_cond hC rfl (by first | exact True.intro | ((try simp only [AllL, All, cd_p, cp_p, cv_p, InK, and_true, true_and]); all_goals ((repeat' (first | refine And.intro ?_ ?_ | intro _)) <;> first | omega | exact True.intro | assumption | (simp; done) | rfl | (simp_all; done) | (simp_all; omega)))) (fun hb => ?_) (fun hb => ?_) <;> (try simp only [decide_eq_true_eq, decide_eq_false_iff_not, Bool.not_eq_true', Bool.not_eq_false', ne_eq, Decidable.not_not] at hb))
                                        · have hj2 : j < l.length := by omega
                                          have hml := movedK_len l n1 n2 n3 g j
                                          have hmg := movedK_get l n1 n2 n3 g j hj2
                                          have hms := movedK_set l n1 n2 n3 g j
                                          have hmod : ((j : Int)).tmod (g : Int) = ((j % g : Nat) : Int) := by rw [Int.tmod_eq_emod_of_nonneg (by omega)]; simp
                                          have hm2 := Nat.mod_lt j (show g > 0 by omega)
                                          have k0 : -20000 ≤ l.getD j 0 ∧ l.getD j 0 ≤ 20000 := by
                                            rw [List.getD_eq_getElem?_getD, List.getElem?_eq_getElem hj2]; exact hv _ (List.getElem_mem hj2)
                                          have k1 := prod_i8 (u := n2) (v := (j : Int)) (by omega) (by omega)
                                          have k2 := prod_i8 (u := n3) (v := ((j % g : Nat) : Int)) (by omega) (by omega)
                                          have HMS := Lib.hid hms
                                          clear hms
                                          (repeat (first | (refine lwp_seq fun K hK => ?_) | (refine thenS_normal ?_; apply_assumption -exfalso -symm) | (refine thenS_exit ?_) | (refine thenS_ret ?_) | (refine inBlockS_normal ?_) | (refine inBlockS_ret ?_) | (refine inBlockS_hit rfl ?_) | (refine inBlockS_miss rfl ?_) | (refine lwp_block ?_) | (refine lwp_skip ?_) | (refine lwp_exit ?_) | (refine lwp_ret ?_) | (refine lwp_label ?_) | (refine lwp_region hC ⟨[], [], []⟩ (told0 _ _) rfl True.intro ?_) | (refine lwp_region hC ⟨[], [], []⟩ (told0 _ _) rfl (by ((try simp only [AllL, All, cd_p, cp_p, cv_p, InK, and_true, true_and]); all_goals ((repeat' (first | refine And.intro ?_ ?_ | intro _)) <;> first | omega | exact True.intro | assumption | (simp; done) | rfl | (simp_all; done) | (simp_all; omega)))) ?_)))
                                          (refine lwp_drawn2 hC (by rw [hP]; exact mixed) ⟨[], [], []⟩ (told0 _ _) [0, 1, 0, 7, 15, 0, 32, 96, 0, 256, 768, 0, 3840, 8160, 0, 16384, 49152, 0, 0, 393216, 1032192, 2097120, 4194303, 8388607, 16777215] 24 0 rfl ?_ ?_; rotate_left 1)
                                          · (repeat (first | (refine lwp_seq fun K hK => ?_) | (refine thenS_normal ?_; apply_assumption -exfalso -symm) | (refine thenS_exit ?_) | (refine thenS_ret ?_) | (refine inBlockS_normal ?_) | (refine inBlockS_ret ?_) | (refine inBlockS_hit rfl ?_) | (refine inBlockS_miss rfl ?_) | (refine lwp_block ?_) | (refine lwp_skip ?_) | (refine lwp_exit ?_) | (refine lwp_ret ?_) | (refine lwp_label ?_) | (refine lwp_region hC ⟨[], [], []⟩ (told0 _ _) rfl True.intro ?_) | (refine lwp_region hC ⟨[], [], []⟩ (told0 _ _) rfl (by ((try simp only [AllL, All, cd_p, cp_p, cv_p, InK, and_true, true_and]); all_goals ((repeat' (first | refine And.intro ?_ ?_ | intro _)) <;> first | omega | exact True.intro | assumption | (simp; done) | rfl | (simp_all; done) | (simp_all; omega)))) ?_)))
                                            refine thenS_normal ⟨j + 1, ?_, ?_, sub_intro hm [(0, some 0), (1, some 1), (2, some 2), (3, some 3), (5, some 5), (8, some 8), (9, some 9), (10, some 10), (39, some 39), (40, some 40), (41, some 41)] rfl ?_⟩
                                            · exact hj2
                                            · omega
                                            · rw [← HMS.out]
                                              simp only [All, cd_p, cp_p, cv_p, hjj, hmg, hmod]
                                              (repeat' refine And.intro ?_ ?_) <;> first | trivial | rfl | omega
                                          · simp only [AllL, All, cd_p, cp_p, cv_p, InK, hjj, hmg, hmod]
                                            (repeat' (first | refine And.intro ?_ ?_ | intro _)) <;> first | omega | trivial | rfl | (trace_state; sorry)
                                        · have hj3 : j = l.length := by omega
                                          subst hj3
                                          rw [movedK_end]
                                          have hml : (movedL l n1 n2 n3 g).length = l.length := by simp [movedL]
                                          (repeat (first | (refine lwp_seq fun K hK => ?_) | (refine thenS_normal ?_; apply_assumption -exfalso -symm) | (refine thenS_exit ?_) | (refine thenS_ret ?_) | (refine inBlockS_normal ?_) | (refine inBlockS_ret ?_) | (refine inBlockS_hit rfl ?_) | (refine inBlockS_miss rfl ?_) | (refine lwp_block ?_) | (refine lwp_skip ?_) | (refine lwp_exit ?_) | (refine lwp_ret ?_) | (refine lwp_label ?_) | (refine lwp_region hC ⟨[], [], []⟩ (told0 _ _) rfl True.intro ?_) | (refine lwp_region hC ⟨[], [], []⟩ (told0 _ _) rfl (by ((try simp only [AllL, All, cd_p, cp_p, cv_p, InK, and_true, true_and]); all_goals ((repeat' (first | refine And.intro ?_ ?_ | intro _)) <;> first | omega | exact True.intro | assumption | (simp; done) | rfl | (simp_all; done) | (simp_all; omega)))) ?_)))
                                          (refine lwp_drawn2 hC (by rw [hP]; exact mixed) ⟨[], [], [(2, LOwn_i ⟨f, movedL l n1 n2 n3 g, []⟩ [(0, some 39), (1, some 40)]), (3, PVersines_i b a ⟨f, movedL l n1 n2 n3 g, []⟩ [(0, some 43), (1, some 44)])]⟩ (told1 _ (by rw [hP]; exact (calls_cons (LOwn_s _ _ (by dsimp only; omega) (by simp)) (calls_cons (PVersines_s _ _ _ _) calls_nil)))) [0, 0, 2, 7, 15, 31, 31, 0, 191, 511] 8 64 rfl ?_ ?_; rotate_left 1)
                                          · rw [HQ.out]
                                            have hsX : sameB X.1 X.1 = true := by simp [sameB]
                                            (repeat (first | (refine lwp_seq fun K hK => ?_) | (refine thenS_normal ?_; apply_assumption -exfalso -symm) | (refine thenS_exit ?_) | (refine thenS_ret ?_) | (refine inBlockS_normal ?_) | (refine inBlockS_ret ?_) | (refine inBlockS_hit rfl ?_) | (refine inBlockS_miss rfl ?_) | (refine lwp_block ?_) | (refine lwp_skip ?_) | (refine lwp_exit ?_) | (refine lwp_ret ?_) | (refine lwp_label ?_) | (refine lwp_region hC ⟨[], [], []⟩ (told0 _ _) rfl True.intro ?_) | (refine lwp_region hC ⟨[], [], []⟩ (told0 _ _) rfl (by ((try simp only [AllL, All, cd_p, cp_p, cv_p, InK, and_true, true_and]); all_goals ((repeat' (first | refine And.intro ?_ ?_ | intro _)) <;> first | omega | exact True.intro | assumption | (simp; done) | rfl | (simp_all; done) | (simp_all; omega)))) ?_)))
                                            (refine lwp_drawn hC (by rw [hP]; exact mixed) ⟨[(2, { b := some true }), (9, { b := some true })], [], [(4, Told_i X.1 [(0, some 45), (1, some 46)]), (6, Told_i X.1 [(0, some 8), (1, some 9)]), (7, Same_i X.1 X.1 [(0, some 45), (1, some 46), (2, some 8), (3, some 9)]), (10, Awake_i [(0, some 0)])]⟩ (told1 _ (by rw [hP]; exact (calls_cons (Told_s _ _) (calls_cons (Told_s _ _) (calls_cons (Same_s _ _ _ (by omega) (by omega)) (calls_cons (Awake_s _) calls_nil)))))) [0, 1, 3, 7, 15, 7, 63, 127, 255, 511, 1023, 2047, 4095] 6 rfl ?_ ?_; rotate_left 1)
                                            · (repeat (first | (refine lwp_seq fun K hK => ?_) | (refine thenS_normal ?_; apply_assumption -exfalso -symm) | (refine thenS_exit ?_) | (refine thenS_ret ?_) | (refine inBlockS_normal ?_) | (refine inBlockS_ret ?_) | (refine inBlockS_hit rfl ?_) | (refine inBlockS_miss rfl ?_) | (refine lwp_block ?_) | (refine lwp_skip ?_) | (refine lwp_exit ?_) | (refine lwp_ret ?_) | (refine lwp_label ?_) | (refine lwp_region hC ⟨[], [], []⟩ (told0 _ _) rfl True.intro ?_) | (refine lwp_region hC ⟨[], [], []⟩ (told0 _ _) rfl (by ((try simp only [AllL, All, cd_p, cp_p, cv_p, InK, and_true, true_and]); all_goals ((repeat' (first | refine And.intro ?_ ?_ | intro _)) <;> first | omega | exact True.intro | assumption | (simp; done) | rfl | (simp_all; done) | (simp_all; omega)))) ?_)))
                                              (refine end_intro (by first | exact .inr rfl | exact .inl rfl) [] rfl ?_)
                                              exact ⟨rfl, trivial⟩
                                            · (simp only [AllL, All, cd_p, cp_p, cv_p, x1, hsX, spC_nil, intsC_nil, List.length_nil, and_self, cond_true])
                                              (repeat' (first | refine And.intro ?_ ?_ | intro _)) <;> first | trivial | omega | (simp; done) | (trace_state; sorry)
                                          · simp only [AllL, All, cd_p, cp_p, cv_p, InK, hml]
                                            (repeat' (first | refine And.intro ?_ ?_ | intro _)) <;> first | omega | trivial | rfl | (trace_state; sorry)
                                    · simp only [AllL, All, cd_p, cp_p, cv_p, InK, hbn, han]
                                      (repeat' (first | refine And.intro ?_ ?_ | intro _)) <;> first | omega | trivial | rfl | (trace_state; sorry)
                                  · ((try simp only [AllL, All, cd_p, cp_p, cv_p, InK, and_true, true_and]); all_goals ((repeat' (first | refine And.intro ?_ ?_ | intro _)) <;> first | omega | exact True.intro | assumption | (simp; done) | rfl | (simp_all; done) | (simp_all; omega)))
                          · simp only [AllL, All, cd_p, cp_p, cv_p, InK, w1]
                            (repeat' (first | refine And.intro ?_ ?_ | intro _)) <;> first | omega | trivial | rfl | (simp [w2]; done) | (simp [w2]; omega)
                        · simp only [AllL, All, cd_p, cp_p, cv_p, InK]
                          (repeat' (first | refine And.intro ?_ ?_ | intro _)) <;> first | trivial | rfl | omega | (simp [tornT]; done) | exact spC_cells [((k : Int), (k : Int) + 1)]
                      · ((try simp only [AllL, All, cd_p, cp_p, cv_p, InK, and_true, true_and]); all_goals ((repeat' (first | refine And.intro ?_ ?_ | intro _)) <;> first | omega | exact True.intro | assumption | (simp; done) | rfl | (simp_all; done) | (simp_all; omega)))
                  · simp only [AllL, All, cd_p, cp_p, cv_p, InK, y1, z1, z2, y4]
                    (repeat' (first | refine And.intro ?_ ?_ | intro _)) <;> first | omega | trivial | rfl | (simp; done) | (simp; omega)
                · ((try simp only [AllL, All, cd_p, cp_p, cv_p, InK, and_true, true_and]); all_goals ((repeat' (first | refine And.intro ?_ ?_ | intro _)) <;> first | omega | exact True.intro | assumption | (simp; done) | rfl | (simp_all; done) | (simp_all; omega)))
              · simp only [AllL, All, cd_p, cp_p, cv_p, InK, List.length_take]
                (repeat' (first | refine And.intro ?_ ?_ | intro _)) <;> first | omega | trivial | rfl | (simp; done) | (simp; omega)
          · simp only [AllL, All, cd_p, cp_p, cv_p, InK, x1]
            (repeat' (first | refine And.intro ?_ ?_ | intro _)) <;> first | omega | trivial | rfl | (simp [x2]; done) | (simp [x2]; omega)
        · ((try simp only [AllL, All, cd_p, cp_p, cv_p, InK, and_true, true_and]); all_goals ((repeat' (first | refine And.intro ?_ ?_ | intro _)) <;> first | omega | exact True.intro | assumption | (simp; done) | rfl | (simp_all; done) | (simp_all; omega)))
    · (simp only [AllL, All, cd_p, cp_p, cv_p, hsm, Bool.not_true, spC_nil, intsC_nil, List.length_nil, and_self, cond_true]) <;> simp

end Go.Proofs.YtbpffadffbgloaaDoor
