/- Chapter 9: the best plan, the program's. -/
import Derived.Test.YtccddhoeampdjaaGreatDoorNa
set_option linter.unusedVariables false
set_option linter.unusedSimpArgs false
namespace Go.Proofs.YtccddhoeampdjaaGreatDoor
open Go.RowKit Go.Sym

def NRepeat_i (b : Int) (n : Nat) (σ : Sym.Ren) : Inst := { f := 145, hin := [(0, .ro 1 1 (.ints .i64 [b]))], args := [.sl 0 1, i64 n], hout := [(1, .row 3 n 1 (.ints .i64 (List.replicate n b)))], ret := .sl 1 n, σ := σ }
theorem NRepeat_s (b : Int) (n : Nat) (σ : Sym.Ren) (hn : n ≤ 1000000) : (NRepeat_i b n σ).ok Tryz.prog := by
  refine ⟨⟨_, Tryz.func145, rfl⟩, fun ρ w vs hdom _ hh hd => ?_⟩
  obtain ⟨L, e1, e2⟩ := rd_of_ro (vs := [.int .i64 b]) (hh.holds 0 _ rfl) rfl (by decide)
  simp only [NRepeat_i, AV.denL, AV.den, e1, Option.map_some, listO, Option.some.injEq] at hd
  subst hd
  obtain ⟨q1, A, cap, q2, q3, q4, q5⟩ := e2
  injection q2 with q2 q6 q7
  obtain ⟨ad, p1, p2, p3⟩ := q5 (by decide)
  have hc0 := p3 0 (.int .i64 b) rfl
  rw [q2, p1]
  have ha : ad.add 0 = ad := by simp [Addr.add]
  rw [ha] at hc0
  refine (Repeat_c ad L.cap b n w hc0 (by omega)).mono ?_
  rintro e w' ⟨g, rfl, g1, g2, g3⟩
  have hno : ρ 1 = none := by
    cases e : ρ 1 with
    | none => rfl
    | some L' => have := hdom 1 L' e; cases this
  let ρ' : Env := fun j => if j = 1 then some ⟨some ⟨g, 0, none⟩, n⟩ else ρ j
  have e1' : ρ' 1 = some ⟨some ⟨g, 0, none⟩, n⟩ := by simp [ρ']
  have hrow : (Chunk.row 3 n 1 (.ints .i64 (List.replicate n b))).holds ρ' 1 w' :=
    row_of_blk (vs := List.replicate n (.int .i64 b)) e1' (by simp [Cont.cells]) (by simp) (by unfold maxLen; omega) g1
  have only : ∀ {j : Nat} {c : Chunk}, Sym.look j [(1, Chunk.row 3 n 1 (.ints .i64 (List.replicate n b)))] = some c → j = 1 ∧ c = .row 3 n 1 (.ints .i64 (List.replicate n b)) := by
    intro j c e
    rw [look_cons] at e
    split at e
    · rename_i hj; cases e; exact ⟨hj, rfl⟩
    · cases e
  refine ⟨ρ', _, rfl, by simp [NRepeat_i, AV.den, e1'], fun j L' e => ?_, ⟨fun j c e => ?_, fun j c e _ j' c' e' hne => ?_⟩, fun g' hg => ?_, Sym.Touch.of_below g3⟩
  · have : j ≠ 1 := by rintro rfl; rw [hno] at e; cases e
    simp [ρ', this, e]
  · obtain ⟨rfl, rfl⟩ := only e
    exact hrow
  · obtain ⟨rfl, _⟩ := only e
    obtain ⟨rfl, _⟩ := only e'
    exact absurd rfl hne
  · obtain ⟨j, c, e, ho⟩ := hg
    obtain ⟨rfl, rfl⟩ := only e
    obtain ⟨L', a', o1, o2, o3⟩ := ho
    rw [e1'] at o1
    cases o1; cases o2; subst o3
    exact .inl g2

def Choice_i (S : List Sec) (T : List Shf) (n : Int) (σ : Ren) : Inst := { f := 85, hin := offIn S T, args := [ofA S T, i64 n], hout := [(2, .blk 37 [.sl 0 S.length, .sl 1 T.length]), (3, .blk 3 [i64 n])], ret := .fn 156 [] [.ptr 3 0 0 0, .ptr 2 0 0 0], σ := σ }
theorem Choice_s (S : List Sec) (T : List Shf) (n : Int) (σ : Ren) : (Choice_i S T n σ).ok Tryz.prog := by
  unfold Choice_i Inst.ok; dsimp only; refine spec_of_body (tys := tys) 2 Tryz.func85 (by kernel_rfl) rfl tys_ok rfl (Nat.le_of_ble_eq_true rfl) (fun _ _ h => (by cases h)) fun F hP hm hC hrd => ?_; conv => whnf
  repeat first | refine lwp_seq fun K hK => ?_ | (with_reducible refine gA ?_; apply_assumption -exfalso -symm) | refine Stp.h ?_ | refine gF rfl ?_ | refine gG rfl ?_ | refine gM hC rfl sd ?_
  (refine end_intro (by first | exact .inr rfl | exact .inl rfl) [(0, some 0), (1, some 1), (2, some 2), (3, some 3)] rfl ?_)
  exact sd

def Bet_i (a b : Int × Int) (σ : Ren) : Inst := { f := 87, hin := [], args := [.agg [i64 a.1, i64 a.2], .agg [i64 b.1, i64 b.2]], hout := [], ret := bl (bet a b), σ := σ }
theorem Bet_s (a b : Int × Int) (σ : Ren) : (Bet_i a b σ).ok Tryz.prog := by
  have hnot := bet_not (a := a) (b := b)
  have hiff := bet_iff (a := a) (b := b)
  have H1 := Lib.hid hnot
  have H2 := Lib.hid hiff
  clear hnot hiff
  unfold Bet_i Inst.ok; dsimp only; refine spec_of_body (tys := tys) 0 Tryz.func87 (by kernel_rfl) rfl tys_ok rfl (Nat.le_of_ble_eq_true rfl) (fun _ _ h => (by cases h)) fun F hP hm hC hrd => ?_; conv => whnf
  by_cases h1 : a.1 > b.1
  · have e : bet a b = true := H2.out.2 (.inl h1)
    repeat first | refine lwp_seq fun K hK => ?_ | (with_reducible refine gA ?_; apply_assumption -exfalso -symm) | refine Stp.h ?_ | refine gF rfl ?_ | refine gG rfl ?_
    (refine lwp_region hC ⟨[(5, { b := some true }), (6, { g := some false }), (7, { g := some false }), (8, { g := some false }), (9, { g := some false }), (10, { g := some false }), (11, { g := some false }), (17, { g := some false })], [], []⟩ (told0 _ _) rfl ?_ ?_; rotate_left 1)
    · repeat first | refine lwp_seq fun K hK => ?_ | (with_reducible refine gA ?_; apply_assumption -exfalso -symm) | refine Stp.h ?_ | refine gF rfl ?_ | refine gG rfl ?_ | refine gM hC rfl sd ?_
      (refine end_intro (by first | exact .inr rfl | exact .inl rfl) [] rfl ?_)
      rw [e]
      exact sd
    · exact sd
  · by_cases h2 : a.1 = b.1
    · by_cases h3 : a.2 < b.2
      · have e : bet a b = true := H2.out.2 (.inr ⟨h2, h3⟩)
        repeat first | refine lwp_seq fun K hK => ?_ | (with_reducible refine gA ?_; apply_assumption -exfalso -symm) | refine Stp.h ?_ | refine gF rfl ?_ | refine gG rfl ?_
        (refine lwp_region hC ⟨[(5, { b := some false }), (11, { b := some true }), (16, { b := some true })], [], []⟩ (told0 _ _) rfl ?_ ?_; rotate_left 1)
        · repeat first | refine lwp_seq fun K hK => ?_ | (with_reducible refine gA ?_; apply_assumption -exfalso -symm) | refine Stp.h ?_ | refine gF rfl ?_ | refine gG rfl ?_ | refine gM hC rfl sd ?_
          (refine end_intro (by first | exact .inr rfl | exact .inl rfl) [] rfl ?_)
          rw [e]
          exact sd
        · exact sd
      · have e : bet a b = false := H1.out.2 (by omega)
        repeat first | refine lwp_seq fun K hK => ?_ | (with_reducible refine gA ?_; apply_assumption -exfalso -symm) | refine Stp.h ?_ | refine gF rfl ?_ | refine gG rfl ?_
        (refine lwp_region hC ⟨[(5, { b := some false }), (11, { b := some true }), (16, { b := some false })], [], []⟩ (told0 _ _) rfl ?_ ?_; rotate_left 1)
        · repeat first | refine lwp_seq fun K hK => ?_ | (with_reducible refine gA ?_; apply_assumption -exfalso -symm) | refine Stp.h ?_ | refine gF rfl ?_ | refine gG rfl ?_ | refine gM hC rfl sd ?_
          (refine end_intro (by first | exact .inr rfl | exact .inl rfl) [] rfl ?_)
          rw [e]
          exact sd
        · exact sd
    · have e : bet a b = false := H1.out.2 (by omega)
      repeat first | refine lwp_seq fun K hK => ?_ | (with_reducible refine gA ?_; apply_assumption -exfalso -symm) | refine Stp.h ?_ | refine gF rfl ?_ | refine gG rfl ?_
      (refine lwp_region hC ⟨[(5, { b := some false }), (11, { b := some false }), (12, { g := some false }), (13, { g := some false }), (14, { g := some false }), (15, { g := some false }), (16, { g := some false })], [], []⟩ (told0 _ _) rfl ?_ ?_; rotate_left 1)
      · repeat first | refine lwp_seq fun K hK => ?_ | (with_reducible refine gA ?_; apply_assumption -exfalso -symm) | refine Stp.h ?_ | refine gF rfl ?_ | refine gG rfl ?_ | refine gM hC rfl sd ?_
        (refine end_intro (by first | exact .inr rfl | exact .inl rfl) [] rfl ?_)
        rw [e]
        exact sd
      · exact sd

end Go.Proofs.YtccddhoeampdjaaGreatDoor
