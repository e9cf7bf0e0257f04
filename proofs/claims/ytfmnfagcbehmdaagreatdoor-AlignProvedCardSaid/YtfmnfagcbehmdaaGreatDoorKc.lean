/- Chapter 5: the table of a ride, the program's. -/
import Derived.Test.YtfmnfagcbehmdaaGreatDoorKb
set_option linter.unusedVariables false
set_option linter.unusedSimpArgs false
namespace Go.Proofs.YtfmnfagcbehmdaaGreatDoor
open Go.RowKit Go.Sym

def NRepeat_i (b : Int) (n : Nat) (σ : Sym.Ren) : Inst := { f := 78, hin := [(0, .ro 1 1 (.ints .i64 [b]))], args := [.sl 0 1, i64 n], hout := [(1, .row 3 n 1 (.ints .i64 (List.replicate n b)))], ret := .sl 1 n, σ := σ }
theorem NRepeat_s (b : Int) (n : Nat) (σ : Sym.Ren) (hn : n ≤ 1000000) : (NRepeat_i b n σ).ok Tryz.prog := by
  refine ⟨⟨_, Tryz.func78, rfl⟩, fun ρ w vs hdom _ hh hd => ?_⟩
  obtain ⟨L, e1, e2⟩ := rd_of_ro (vs := [.int .i64 b]) (hh.holds 0 _ rfl) rfl (by decide)
  simp only [NRepeat_i, AV.denL, AV.den, e1, Option.map_some, listO, Option.some.injEq] at hd
  subst hd
  obtain ⟨q1, A, cap, q2, q3, q4, q5⟩ := e2
  injection q2 with q2 q6 q7
  obtain ⟨ad, p1, p2, p3⟩ := q5 (by decide)
  have hc0 := p3 0 (.int .i64 b) rfl
  rw [q2, p1]
  have ha : ad.add 0 = ad := by simp [Addr.add]
  rw [ha] at hc0
  refine (Repeat_c ad L.cap b n w hc0 (by omega)).mono ?_
  rintro e w' ⟨g, rfl, g1, g2, g3⟩
  have hno : ρ 1 = none := by
    cases e : ρ 1 with
    | none => rfl
    | some L' => have := hdom 1 L' e; cases this
  let ρ' : Env := fun j => if j = 1 then some ⟨some ⟨g, 0, none⟩, n⟩ else ρ j
  have e1' : ρ' 1 = some ⟨some ⟨g, 0, none⟩, n⟩ := by simp [ρ']
  have hrow : (Chunk.row 3 n 1 (.ints .i64 (List.replicate n b))).holds ρ' 1 w' :=
    row_of_blk (vs := List.replicate n (.int .i64 b)) e1' (by simp [Cont.cells]) (by simp) (by unfold maxLen; omega) g1
  have only : ∀ {j : Nat} {c : Chunk}, Sym.look j [(1, Chunk.row 3 n 1 (.ints .i64 (List.replicate n b)))] = some c → j = 1 ∧ c = .row 3 n 1 (.ints .i64 (List.replicate n b)) := by
    intro j c e
    rw [look_cons] at e
    split at e
    · rename_i hj; cases e; exact ⟨hj, rfl⟩
    · cases e
  refine ⟨ρ', _, rfl, by simp [NRepeat_i, AV.den, e1'], fun j L' e => ?_, ⟨fun j c e => ?_, fun j c e _ j' c' e' hne => ?_⟩, fun g' hg => ?_, Sym.Touch.of_below g3⟩
  · have : j ≠ 1 := by rintro rfl; rw [hno] at e; cases e
    simp [ρ', this, e]
  · obtain ⟨rfl, rfl⟩ := only e
    exact hrow
  · obtain ⟨rfl, _⟩ := only e
    obtain ⟨rfl, _⟩ := only e'
    exact absurd rfl hne
  · obtain ⟨j, c, e, ho⟩ := hg
    obtain ⟨rfl, rfl⟩ := only e
    obtain ⟨L', a', o1, o2, o3⟩ := ho
    rw [e1'] at o1
    cases o1; cases o2; subst o3
    exact .inl g2

/-- A table: its rows, as a slice of slices and the family of what they hold. -/
abbrev tabC (j n : Nat) (R : Nat → List Int) : Chunk := .row 45 n 1 (.tbl j n (fun q => (R q).length) none)
abbrev famC (n : Nat) (R : Nat → List Int) : Chunk := .fam true 3 1 n (fun q => (R q).length) (fun q => .ints .i64 (R q))
def fillF (k j q : Nat) : List Int := if q < j then List.replicate k (-1) else []
/-- The table with the costs of the first pairs. -/
def wrF (k : Nat) (L : List St) (A : List Int) : Nat → Nat → List Int
  | 0, _ => List.replicate k (-1)
  | i + 1, q => if q = (stAt L i).p.1.toNat then (wrF k L A i q).set (stAt L i).p.2.toNat (A.getD i 0) else wrF k L A i q
theorem wrF_len (k : Nat) (L : List St) (A : List Int) (i q : Nat) : (wrF k L A i q).length = k := by
  induction i with
  | zero => simp [wrF]
  | succ i ih => unfold wrF; split <;> simp [ih]
theorem wrF_step (k : Nat) (L : List St) (A : List Int) (i q : Nat) : (Cont.ints .i64 (wrF k L A (i + 1) q)).cells = (if q = (L.getD i stD).p.1.toNat then Cont.ints .i64 ((wrF k L A i (L.getD i stD).p.1.toNat).set (L.getD i stD).p.2.toNat (A.getD i 0)) else Cont.ints .i64 (wrF k L A i q)).cells := by
  have e : wrF k L A (i + 1) q = if q = (L.getD i stD).p.1.toNat then (wrF k L A i q).set (L.getD i stD).p.2.toNat (A.getD i 0) else wrF k L A i q := rfl
  rw [e]
  by_cases h : q = (L.getD i stD).p.1.toNat
  · rw [if_pos h, if_pos h, ← h]
  · rw [if_neg h, if_neg h]
theorem fill_step (k j q : Nat) : fillF k (j + 1) q = if q = j then List.replicate k (-1) else fillF k j q := by
  unfold fillF
  by_cases h : q = j
  · subst h; simp
  · rw [if_neg h]
    by_cases h2 : q < j
    · rw [if_pos h2, if_pos (by omega)]
    · rw [if_neg h2, if_neg (by omega)]
theorem fill_len (k j q : Nat) : (fillF k (j + 1) q).length = if q = j then k else (fillF k j q).length := by
  rw [fill_step]; split <;> simp
theorem fill_cells (k j q : Nat) : (Cont.ints .i64 (fillF k (j + 1) q)).cells = (if q = j then Cont.ints .i64 (List.replicate k (-1)) else Cont.ints .i64 (fillF k j q)).cells := by
  rw [fill_step]; split <;> rfl
theorem fill_all {k n q : Nat} (L : List St) (A : List Int) (h : q < n) : fillF k n q = wrF k L A 0 q := if_pos h
def tabN (m s : List Th) (c : Cs) : Nat := if aligE m s c ≠ 0 then 0 else s.length
def tabF (m s : List Th) (c : Cs) (q : Nat) : List Int := wrF m.length (behindS m s c) (aheadS m s c (behindS m s c)) (behindS m s c).length q

def Table_i (m s : List Th) (c : Cs) (σ : Ren) : Inst := { f := 21, hin := rideIn m s, args := [rdA m s, csA c], hout := [(2, tabC 3 (tabN m s c) (tabF m s c)), (3, famC (tabN m s c) (tabF m s c))], ret := .tup [.sl 2 (tabN m s c), i64 (aligE m s c)], σ := σ }
set_option maxRecDepth 20000 in
set_option maxHeartbeats 4000000 in
theorem Table_s (m s : List Th) (c : Cs) (σ : Ren) (hm' : m.length ≤ 1000000) (hs : s.length ≤ 1000000) : (Table_i m s c σ).ok Tryz.prog := by
  unfold Table_i Inst.ok; dsimp only; refine spec_of_body (tys := tys) 2 Tryz.func21 (by kernel_rfl) rfl tys_ok rfl (Nat.le_of_ble_eq_true rfl) (fun _ _ h => (by cases h)) fun F hP hm hC hrd => ?_; conv => whnf
  repeat first | refine lwp_seq fun K hK => ?_ | (with_reducible refine gA ?_; apply_assumption -exfalso -symm) | refine Stp.h ?_ | refine gF rfl ?_ | refine gG rfl ?_ | refine gM hC rfl sd ?_
  (refine lwp_drawn hC (by rw [hP]; exact mixed) ⟨[], [], [(1, Ride_i m s [(0, some 0), (1, some 1)]), (3, Costs_i c.missed c.unseen c.stretch), (5, AFirst_i [rideS m s, costsS c.missed c.unseen c.stretch] [(0, some 4)])]⟩ (told1 _ (by rw [hP]; exact (calls_cons (Ride_s _ _ _ hm' hs) (calls_cons (Costs_s _ _ _) (calls_cons (AFirst_s _ _ (by simp)) calls_nil))))) [0, 1, 0, 7, 15, 31, 63] 3 rfl ?_ ?_; rotate_left 1)
  · repeat first | refine lwp_seq fun K hK => ?_ | (with_reducible refine gA ?_; apply_assumption -exfalso -symm) | refine Stp.h ?_ | refine gF rfl ?_ | refine gG rfl ?_ | refine gM hC rfl sd ?_
    refine lwp_condS hC rfl sd ?_ ?_ <;> intro hb
    · have hb' : aligE m s c ≠ 0 := hb
      rw [show tabN m s c = 0 from if_pos hb']
      repeat first | refine lwp_seq fun K hK => ?_ | (with_reducible refine gA ?_; apply_assumption -exfalso -symm) | refine Stp.h ?_ | refine gF rfl ?_ | refine gG rfl ?_
      refine lwp_sub (fam0_sub true 3 1 (fun q => (tabF m s c q).length) (fun q => .ints .i64 (tabF m s c q)) (by decide)) ?_
      repeat first | refine lwp_seq fun K hK => ?_ | (with_reducible refine gA ?_; apply_assumption -exfalso -symm) | refine Stp.h ?_ | refine gF rfl ?_ | refine gG rfl ?_ | refine gM hC rfl sd ?_
      (refine end_intro (by first | exact .inr rfl | exact .inl rfl) [(2, none), (3, some 5)] rfl ?_)
      exact sd
    · have hb' : aligE m s c = 0 := hb
      have hf := afit_of hb'
      have hTN : tabN m s c = s.length := if_neg (by rw [hb']; decide)
      have HTN := Lib.hid hTN
      clear hTN
      repeat first | refine lwp_seq fun K hK => ?_ | (with_reducible refine gA ?_; apply_assumption -exfalso -symm) | refine Stp.h ?_ | refine gF rfl ?_ | refine gG rfl ?_ | refine gM hC rfl ⟨⟩ ?_
      (refine lwp_region hC ⟨[], [], [(2, Behind_i m s c [(0, some 0), (1, some 1)])]⟩ (told1 _ (by rw [hP]; exact (calls_cons (Behind_s _ _ _ _ hf.c hf.l hf.pm hf.ps hf.km hf.ks) calls_nil))) rfl ?_ ?_; rotate_left 1)
      · have hN4 := allP_len hf.l.1 hf.l.2
        have hBk : BOk m s (allP m s).length (behindS m s c) := behB_ok hf.c (last_ok hf.c hf.l.2 (fun i hi => allP_in i hi)) _ (Nat.le_refl _)
        have hTF : ∀ q, tabF m s c q = wrF m.length (behindS m s c) (aheadS m s c (behindS m s c)) (behindS m s c).length q := fun q => rfl
        obtain ⟨L, hL⟩ : ∃ L, behindS m s c = L := ⟨_, rfl⟩
        have hLl := hBk.1
        rw [← hLl] at hBk hN4 ⊢
        rw [hL] at hBk hN4 hTF ⊢
        have HB := Lib.hid hBk
        have HTF := Lib.hid hTF
        have hl2 := hf.l
        clear hBk hL hTF hLl
        repeat first | refine lwp_seq fun K hK => ?_ | (with_reducible refine gA ?_; apply_assumption -exfalso -symm) | refine Stp.h ?_ | refine gF rfl ?_ | refine gG rfl ?_ | refine gM hC rfl sd ?_
        refine lwp_sub (made_sub (i := 6) (n := s.length) true 3 1 (fun _ => .ints .i64 []) (by decide) (fun _ => rfl) rfl (by simp [zeroCont, Cont.cells, Nat.mod_one]; intro _ _; rfl)) ?_
        refine lwp_loop (fun j : Nat => ⟨[(30, i64 j), (29, i64 s.length), (8, .sl 6 s.length), (7, .sl 5 L.length), (2, .ptr 2 0 0 0), (3, .ptr 3 0 0 0)], [(6, tabC 7 s.length (fillF m.length j)), (7, famC s.length (fillF m.length j)), (5, .row 141 L.length 5 (stC L)), (0, .ro m.length 2 (thC m)), (1, .ro s.length 2 (thC s)), (2, .blk 38 [.sl 0 m.length, .sl 1 s.length]), (3, .blk 40 [i64 c.missed, i64 c.unseen, i64 c.stretch])], 8⟩) (fun j => j ≤ s.length) (fun j => s.length - j) 0 ⟨?_, sub_intro hm [(0, some 0), (1, some 1), (2, some 2), (3, some 3), (5, some 5), (6, some 6), (7, some 7)] rfl ?_⟩ ?_
        · exact Nat.zero_le _
        · have f0 : ∀ q, fillF m.length 0 q = [] := fun q => if_neg (Nat.not_lt_zero q)
          simp only [f0]
          exact sd
        · rintro j hj
          have e1 : (j : Int).toNat = j := Int.toNat_natCast j
          repeat first | refine lwp_seq fun K hK => ?_ | (with_reducible refine gA ?_; apply_assumption -exfalso -symm) | refine Stp.h ?_ | refine gF rfl ?_ | refine gG rfl ?_ | refine gM hC rfl sd ?_
          refine lwp_condS hC rfl sd ?_ ?_ <;> intro hb
          · have hjs : j < s.length := by omega
            repeat first | refine lwp_seq fun K hK => ?_ | (with_reducible refine gA ?_; apply_assumption -exfalso -symm) | refine Stp.h ?_ | refine gF rfl ?_ | refine gG rfl ?_ | refine gM hC rfl ⟨⟩ ?_
            (refine lwp_region hC ⟨[], [], [(6, NRepeat_i (-1) m.length [(0, some 8)])]⟩ (told1 _ (by rw [hP]; exact (calls_cons (NRepeat_s _ _ _ hm') calls_nil))) rfl ?_ ?_; rotate_left 1)
            · repeat first | refine lwp_seq fun K hK => ?_ | (with_reducible refine gA ?_; apply_assumption -exfalso -symm) | refine Stp.h ?_ | refine gF rfl ?_ | refine gG rfl ?_
              simp only [e1]
              refine lwp_sub (put_sub (i := 6) (j := 7) (k := 9) (e := j) rfl rfl rfl rfl hjs (fun q h _ => h) rfl) ?_
              repeat first | refine lwp_seq fun K hK => ?_ | (with_reducible refine gA ?_; apply_assumption -exfalso -symm) | refine Stp.h ?_ | refine gF rfl ?_ | refine gG rfl ?_ | refine gM hC rfl sd ?_
              refine gA ⟨j + 1, ?_, ?_, sub_intro hm [(0, some 0), (1, some 1), (2, some 2), (3, some 3), (5, some 5), (6, some 6), (7, some 11)] rfl ?_⟩
              · omega
              · omega
              · simp only [fill_len, fill_cells]
                (simp only [AllL, All, cd_p, cp_p, cv_p, InK]; (repeat' (first | refine And.intro ?_ ?_ | intro _)) <;> first | omega | exact True.intro | rfl)
            · simp only [e1]
              exact sd
          · obtain rfl : j = s.length := by omega
            repeat first | refine lwp_seq fun K hK => ?_ | (with_reducible refine gA ?_; apply_assumption -exfalso -symm) | refine Stp.h ?_ | refine gF rfl ?_ | refine gG rfl ?_ | refine gM hC rfl ⟨⟩ ?_
            (refine lwp_region hC ⟨[], [], [(3, Ahead_i m s c L [(0, some 0), (1, some 1), (2, some 5)])]⟩ (told1 _ (by rw [hP]; exact (calls_cons (Ahead_s _ _ _ _ _ hf.c hl2 hf.pm hf.ps HB.out hN4) calls_nil))) rfl ?_ ?_; rotate_left 1)
            · have hAl : (aheadS m s c L).length = L.length := aheadO_len m s c L _
              have hTL := HTF.out
              obtain ⟨A, hA⟩ : ∃ A, aheadS m s c L = A := ⟨_, rfl⟩
              rw [hA] at hAl hTL ⊢
              have HTL := Lib.hid hTL
              clear hA hTL
              repeat first | refine lwp_seq fun K hK => ?_ | (with_reducible refine gA ?_; apply_assumption -exfalso -symm) | refine Stp.h ?_ | refine gF rfl ?_ | refine gG rfl ?_ | refine gM hC rfl sd ?_
              refine lwp_loop (fun i : Nat => ⟨[(47, i64 i), (46, i64 L.length), (45, .sl 8 L.length), (8, .sl 6 s.length), (7, .sl 5 L.length)], [(6, tabC 7 s.length (wrF m.length L A i)), (7, famC s.length (wrF m.length L A i)), (8, .row 3 L.length 1 (.ints .i64 A)), (5, .row 141 L.length 5 (stC L)), (0, .ro m.length 2 (thC m)), (1, .ro s.length 2 (thC s)), (2, .blk 38 [.sl 0 m.length, .sl 1 s.length]), (3, .blk 40 [i64 c.missed, i64 c.unseen, i64 c.stretch])], 9⟩) (fun i => i ≤ L.length) (fun i => L.length - i) 0 ⟨?_, sub_intro hm [(0, some 0), (1, some 1), (2, some 2), (3, some 3), (5, some 5), (6, some 6), (7, some 7), (8, some 8)] rfl ?_⟩ ?_
              · exact Nat.zero_le _
              · simp only [AllL, All, cd_p, cp_p, cv_p]
                (repeat' (first | refine And.intro ?_ ?_ | intro _)) <;> first | omega | exact True.intro | rfl | (rename_i q hq; rw [fill_all L A hq])
              · rintro i hi
                have e2 : (i : Int).toNat = i := Int.toNat_natCast i
                repeat first | refine lwp_seq fun K hK => ?_ | (with_reducible refine gA ?_; apply_assumption -exfalso -symm) | refine Stp.h ?_ | refine gF rfl ?_ | refine gG rfl ?_ | refine gM hC rfl sd ?_
                refine lwp_condS hC rfl sd ?_ ?_ <;> intro hb
                · have hil : i < L.length := by omega
                  obtain ⟨⟨h1, h2⟩, h3, h4⟩ : inS m s (L.getD i stD).p := (HB.out.2 i hil).1
                  have hwl := wrF_len m.length L A i
                  repeat first | refine lwp_seq fun K hK => ?_ | (with_reducible refine gA ?_; apply_assumption -exfalso -symm) | refine Stp.h ?_ | refine gF rfl ?_ | refine gG rfl ?_ | refine gM hC rfl sd ?_
                  (refine lwp_drawn hC (by rw [hP]; exact mixed) ⟨[], [], []⟩ (told0 _ _) [0, 0, 0, 6, 14, 30, 62, 127, 255, 0, 0, 1536, 3584, 7680, 15872, 0, 65535, 131071] 16 rfl ?_ ?_; rotate_left 1)
                  · simp only [e2]
                    repeat first | refine lwp_seq fun K hK => ?_ | (with_reducible refine gA ?_; apply_assumption -exfalso -symm) | refine Stp.h ?_ | refine gF rfl ?_ | refine gG rfl ?_ | refine gM hC rfl sd ?_
                    refine gA ⟨i + 1, ?_, ?_, sub_intro hm [(0, some 0), (1, some 1), (2, some 2), (3, some 3), (5, some 5), (6, some 6), (7, some 7), (8, some 8)] rfl ?_⟩
                    · omega
                    · omega
                    · simp only [wrF_step, wrF_len]
                      (simp only [AllL, All, cd_p, cp_p, cv_p, InK]; (repeat' (first | refine And.intro ?_ ?_ | intro _)) <;> first | omega | exact True.intro | rfl)
                  · simp only [e2, wrF_len]
                    exact sd
                · obtain rfl : i = L.length := by omega
                  repeat first | refine lwp_seq fun K hK => ?_ | (with_reducible refine gA ?_; apply_assumption -exfalso -symm) | refine Stp.h ?_ | refine gF rfl ?_ | refine gG rfl ?_ | refine gM hC rfl sd ?_
                  rw [HTN.out, show tabF m s c = wrF m.length L A L.length from funext HTL.out]
                  (refine end_intro (by first | exact .inr rfl | exact .inl rfl) [(2, some 6), (3, some 7)] rfl ?_)
                  exact sd
            · exact sd
      · exact sd
  · exact sd

end Go.Proofs.YtfmnfagcbehmdaaGreatDoor
