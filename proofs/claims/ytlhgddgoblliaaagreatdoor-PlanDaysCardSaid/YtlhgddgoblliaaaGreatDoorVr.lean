/- Chapter 9: the best sequence, the program's. -/
import Derived.Test.YtlhgddgoblliaaaGreatDoorVq
set_option linter.unusedVariables false
set_option linter.unusedSimpArgs false
namespace Go.Proofs.YtlhgddgoblliaaaGreatDoor
open Go.RowKit Go.Sym

def NRep_i (b : Int) (n : Nat) (σ : Sym.Ren) : Inst := { f := 62, hin := [(0, .ro 1 1 (.ints .i64 [b]))], args := [.sl 0 1, i64 n], hout := [(1, .row 3 n 1 (.ints .i64 (List.replicate n b)))], ret := .sl 1 n, σ := σ }
theorem NRep_s (b : Int) (n : Nat) (σ : Sym.Ren) (hn : n ≤ 1000000) : (NRep_i b n σ).ok Tryz.prog := by
  refine ⟨⟨_, Tryz.func62, rfl⟩, fun ρ w vs hdom _ hh hd => ?_⟩
  obtain ⟨L, e1, e2⟩ := rd_of_ro (vs := [.int .i64 b]) (hh.holds 0 _ rfl) rfl (by decide)
  simp only [NRep_i, AV.denL, AV.den, e1, Option.map_some, listO, Option.some.injEq] at hd
  subst hd
  obtain ⟨q1, A, cap, q2, q3, q4, q5⟩ := e2
  injection q2 with q2 q6 q7
  obtain ⟨ad, p1, p2, p3⟩ := q5 (by decide)
  have hc0 := p3 0 (.int .i64 b) rfl
  rw [q2, p1]
  have ha : ad.add 0 = ad := by simp [Addr.add]
  rw [ha] at hc0
  refine (Repeat_c ad L.cap b n w hc0 (by omega)).mono ?_
  rintro e w' ⟨g, rfl, g1, g2, g3⟩
  have hno : ρ 1 = none := by
    cases e : ρ 1 with
    | none => rfl
    | some L' => have := hdom 1 L' e; cases this
  let ρ' : Env := fun j => if j = 1 then some ⟨some ⟨g, 0, none⟩, n⟩ else ρ j
  have e1' : ρ' 1 = some ⟨some ⟨g, 0, none⟩, n⟩ := by simp [ρ']
  have hrow : (Chunk.row 3 n 1 (.ints .i64 (List.replicate n b))).holds ρ' 1 w' :=
    row_of_blk (vs := List.replicate n (.int .i64 b)) e1' (by simp [Cont.cells]) (by simp) (by unfold maxLen; omega) g1
  have only : ∀ {j : Nat} {c : Chunk}, Sym.look j [(1, Chunk.row 3 n 1 (.ints .i64 (List.replicate n b)))] = some c → j = 1 ∧ c = .row 3 n 1 (.ints .i64 (List.replicate n b)) := by
    intro j c e
    rw [look_cons] at e
    split at e
    · rename_i hj; cases e; exact ⟨hj, rfl⟩
    · cases e
  refine ⟨ρ', _, rfl, by simp [NRep_i, AV.den, e1'], fun j L' e => ?_, ⟨fun j c e => ?_, fun j c e _ j' c' e' hne => ?_⟩, fun g' hg => ?_, Sym.Touch.of_below g3⟩
  · have : j ≠ 1 := by rintro rfl; rw [hno] at e; cases e
    simp [ρ', this, e]
  · obtain ⟨rfl, rfl⟩ := only e
    exact hrow
  · obtain ⟨rfl, _⟩ := only e
    obtain ⟨rfl, _⟩ := only e'
    exact absurd rfl hne
  · obtain ⟨j, c, e, ho⟩ := hg
    obtain ⟨rfl, rfl⟩ := only e
    obtain ⟨L', a', o1, o2, o3⟩ := ho
    rw [e1'] at o1
    cases o1; cases o2; subst o3
    exact .inl g2

def sqN (l : List Jb) : List Int := List.replicate l.length (-1)
def sqB (l : List Jb) (H : List Int) (hi : Int) (d : Nat) : Option (List Int × Nat) := (flF l H hi (d + 1) l.length 0 (sqN l)).map fun x => (x, d)
def sqF (l : List Jb) (H : List Int) (hi : Int) : Option (List Int × Nat) := tryF (sqB l H hi) H.length
def sqE (l : List Jb) (H : List Int) (lo hi : Int) : Int := firstS [jobsE l, heatE H, bandS lo hi]
def sqR (l : List Jb) (H : List Int) (lo hi : Int) : List Int × Int × Int := if sqE l H lo hi = 0 then (match sqF l H hi with | some x => (x.1, (x.2 : Int), 0) | none => ([], 0, 18)) else ([], 0, sqE l H lo hi)
def jhIn (l : List Jb) (H : List Int) : List (Nat × Chunk) := [(0, jbCh l 1), (1, fmCh l), (2, .ro H.length 1 (.ints .i64 H)), (3, kdP)]
def Sq_i (l : List Jb) (H : List Int) (lo hi : Int) (σ : Ren) : Inst := { f := 12, gl := [(0, 3)], hin := jhIn l H, args := [.sl 0 l.length, .sl 2 H.length, .agg [i64 lo, i64 hi]], hout := [(4, .row 3 (sqR l H lo hi).1.length 1 (.ints .i64 (sqR l H lo hi).1))], ret := .tup [.sl 4 (sqR l H lo hi).1.length, i64 (sqR l H lo hi).2.1, i64 (sqR l H lo hi).2.2], σ := σ }
theorem flF_len {l : List Jb} {H : List Int} {hi : Int} {e : Nat} : ∀ {r j : Nat} {D x : List Int}, flF l H hi e r j D = some x → x.length = D.length
  | 0, j, D, x, h => by cases h; rfl
  | r + 1, j, D, x, h => by
    obtain ⟨d, _, hd⟩ := List.exists_of_findSome?_eq_some h
    unfold fbF at hd
    split at hd
    · have := flF_len hd
      rw [List.length_set] at this
      exact this
    · cases hd
set_option maxRecDepth 20000 in
set_option maxHeartbeats 8000000 in
theorem Sq_s (l : List Jb) (H : List Int) (lo hi : Int) (σ : Ren) (hl : l.length ≤ 1000) (hln : ∀ k, lnJ l k ≤ 1000) (hH : H.length ≤ 1000) : (Sq_i l H lo hi σ).ok Tryz.prog := by
  by_cases hz : sqE l H lo hi = 0
  · have h1 := (firstS_cons _ _).1 hz
    have h2 := (firstS_cons _ _).1 h1.2
    have z1 := h1.1
    have z2 := h2.1
    have z3 := ((firstS_cons _ _).1 h2.2).1
    have hnm : jbsE l = 0 := by
      have h := z1
      unfold jobsE at h
      split at h
      · cases h
      · exact ((firstS_cons _ _).1 h).1
    have hpl := Plc_s l [(0, some 0), (1, some 1)] hl (fun k hk => jbs_names hnm k hk)
    have hcj := CJb_s l [(0, some 0), (1, some 1), (2, some 3)] hl hln
    have hhe := Heat_s H [(0, some 2)] (by omega)
    have hba := PBand_s lo hi
    unfold CJb_i at hcj
    unfold Heat_i at hhe
    unfold PBand_i at hba
    rw [z1] at hcj
    rw [z2] at hhe
    rw [z3] at hba
    have HP := Lib.hid hpl
    have HJ := Lib.hid hcj
    have HH := Lib.hid hhe
    have HBA := Lib.hid hba
    have er : sqR l H lo hi = (match sqF l H hi with | some x => (x.1, (x.2 : Int), 0) | none => ([], 0, 18)) := if_pos hz
    unfold Sq_i
    obtain ⟨R, hR⟩ : ∃ R, sqR l H lo hi = R := ⟨_, rfl⟩
    rw [hR] at er ⊢
    have HER := Lib.hid er
    clear hpl hcj hhe hba hz h1 h2 z1 z2 z3 hnm er hR
    have hsl : (sqN l).length = l.length := List.length_replicate
    have hsm : ∀ k, 0 ≤ k → k < l.length → (sqN l).getD k 0 = -1 := fun k _ hk => by unfold sqN; simp [List.getD, hk]
    unfold jhIn Inst.ok; dsimp only; refine spec_of_body (tys := tys) 4 Tryz.func12 (by kernel_rfl) rfl tys_ok rfl (Nat.le_of_ble_eq_true rfl) (fun g i h => by simp only [List.mem_cons, List.not_mem_nil, or_false, Prod.mk.injEq] at h; omega) fun F hP hm hC hrd => ?_; conv => whnf
    repeat first | refine lwp_seq fun K hK => ?_ | (with_reducible refine gA ?_; apply_assumption -exfalso -symm) | refine Stp.h ?_ | refine gF rfl ?_ | refine gG rfl ?_ | refine gM hC rfl sd ?_
    refine lwp_scope ?_
    repeat first | refine lwp_seq fun K hK => ?_ | (with_reducible refine gA ?_; apply_assumption -exfalso -symm) | refine Stp.h ?_ | refine gF rfl ?_ | refine gG rfl ?_ | refine gM hC rfl sd ?_
    (refine lwp_drawn hC (by rw [hP]; exact mixed) ⟨[], [], [(1, { f := 20, gl := [(0, 2)], hin := jobIn l ++ [(2, kdP)], args := [.sl 0 l.length], hout := [], ret := i64 0, σ := [(0, some 0), (1, some 1), (2, some 3)] }), (3, { f := 54, hin := [(0, .ro H.length 1 (.ints .i64 H))], args := [.sl 0 H.length], hout := [], ret := i64 0, σ := [(0, some 2)] }), (5, { f := 55, hin := [], args := [.agg [i64 lo, i64 hi]], hout := [], ret := i64 0, σ := [] }), (7, PFirst_i [0, 0, 0] [(0, some 5)])]⟩ (told1 _ (by rw [hP]; exact (calls_cons (HJ.out) (calls_cons (HH.out) (calls_cons (HBA.out) (calls_cons (PFirst_s _ _ (by simp)) calls_nil)))))) [0, 1, 0, 7, 0, 31, 63, 127, 255] 5 rfl ?_ ?_; rotate_left 1)
    · repeat first | refine lwp_seq fun K hK => ?_ | (with_reducible refine gA ?_; apply_assumption -exfalso -symm) | refine Stp.h ?_ | refine gF rfl ?_ | refine gG rfl ?_ | refine gM hC rfl sd ?_
      refine lwp_condS hC rfl sd ?_ ?_ <;> intro hb
      · exact absurd rfl hb
      · clear hb
        repeat first | refine lwp_seq fun K hK => ?_ | (with_reducible refine gA ?_; apply_assumption -exfalso -symm) | refine Stp.h ?_ | refine gF rfl ?_ | refine gG rfl ?_ | refine gM hC rfl sd ?_
        (refine lwp_drawn hC (by rw [hP]; exact mixed) ⟨[], [], [(4, Plc_i l [(0, some 0), (1, some 1)]), (8, NRep_i (-1) l.length [(0, some 7)])]⟩ (told1 _ (by rw [hP]; exact (calls_cons (HP.out) (calls_cons (NRep_s _ _ _ (by omega)) calls_nil)))) [0, 0, 0, 0, 8, 0, 0, 64, 248, 511, 1023, 2047] 9 rfl ?_ ?_; rotate_left 1)
        · have hrn : List.replicate l.length (-1 : Int) = sqN l := rfl
          rw [hrn]
          repeat first | refine lwp_seq fun K hK => ?_ | (with_reducible refine gA ?_; apply_assumption -exfalso -symm) | refine Stp.h ?_ | refine gF rfl ?_ | refine gG rfl ?_ | refine gM hC rfl sd ?_
          refine lwp_loop (fun d : Nat => ⟨[(38, i64 d), (37, i64 H.length), (10, .ptr 9 0 0 0), (11, i64 0), (12, bl false)], [(9, .blk 129 [.sl 0 l.length, .sl 2 H.length, i64 lo, i64 hi, .mp 6, .sl 8 l.length]), (8, .row 3 l.length 1 (.ints .i64 (sqN l))), (6, .obj (.ix (nmJ l))), (0, jbCh l 1), (1, fmCh l), (2, .ro H.length 1 (.ints .i64 H)), (3, kdP)], 10⟩) (fun d => d ≤ H.length ∧ ∀ i, i < d → sqB l H hi i = none) (fun d => H.length - d) 0 ⟨?_, sub_intro hm [(0, some 0), (1, some 1), (2, some 2), (3, some 3), (6, some 6), (8, some 8), (9, some 9)] rfl ?_⟩ ?_
          · exact ⟨Nat.zero_le _, fun i hi => absurd hi (Nat.not_lt_zero _)⟩
          · exact sd
          · rintro d ⟨hd, hf⟩
            have HB := Lib.hid hf
            clear hf
            repeat first | refine lwp_seq fun K hK => ?_ | (with_reducible refine gA ?_; apply_assumption -exfalso -symm) | refine Stp.h ?_ | refine gF rfl ?_ | refine gG rfl ?_ | refine gM hC rfl sd ?_
            refine lwp_condS hC rfl sd ?_ ?_ <;> intro hb
            · have hd2 : d < H.length := by omega
              clear hb
              have hfi := Fl_s l H lo hi d hl hln hH hd2 l.length 0 (sqN l) [(0, some 0), (1, some 1), (2, some 2), (3, some 6), (4, some 8), (5, some 9)] (by omega) hsl hsm
              have hsb : sqB l H hi d = (flF l H hi (d + 1) l.length 0 (sqN l)).map fun x => (x, d) := rfl
              have hfl := fun x (h : flF l H hi (d + 1) l.length 0 (sqN l) = some x) => flF_len h
              unfold Fl_i flD at hfi
              obtain ⟨x, hx⟩ : ∃ x, flF l H hi (d + 1) l.length 0 (sqN l) = x := ⟨_, rfl⟩
              rw [hx] at hfi hsb
              cases x with
              | none =>
                have HF := Lib.hid hfi
                have HN := Lib.hid (show sqB l H hi d = none from hsb)
                clear hfi hsb hx hfl
                repeat first | refine lwp_seq fun K hK => ?_ | (with_reducible refine gA ?_; apply_assumption -exfalso -symm) | refine Stp.h ?_ | refine gF rfl ?_ | refine gG rfl ?_ | refine gM hC rfl sd ?_
                (refine lwp_region hC ⟨[], [], [(2, { f := 63, hin := flIn l H lo hi (sqN l), args := [.ptr 5 0 0 0, i64 ((0 : Nat) : Int), i64 d], hout := [(3, .obj (.ix (nmJ l))), (4, .row 3 l.length 1 (.ints .i64 (sqN l)))], ret := bl false, σ := [(0, some 0), (1, some 1), (2, some 2), (3, some 6), (4, some 8), (5, some 9)] })]⟩ (told1 _ (by rw [hP]; exact (calls_cons (HF.out) calls_nil))) rfl ?_ ?_; rotate_left 1)
                · repeat first | refine lwp_seq fun K hK => ?_ | (with_reducible refine gA ?_; apply_assumption -exfalso -symm) | refine Stp.h ?_ | refine gF rfl ?_ | refine gG rfl ?_ | refine gM hC rfl sd ?_
                  refine lwp_condS hC rfl sd ?_ ?_ <;> intro hb
                  · simp at hb
                  · clear hb
                    repeat first | refine lwp_seq fun K hK => ?_ | (with_reducible refine gA ?_; apply_assumption -exfalso -symm) | refine Stp.h ?_ | refine gF rfl ?_ | refine gG rfl ?_ | refine gM hC rfl sd ?_
                    refine gA ⟨d + 1, ?_, ?_, sub_intro hm [(0, some 0), (1, some 1), (2, some 2), (3, some 3), (6, some 6), (8, some 8), (9, some 9)] rfl ?_⟩
                    · refine ⟨hd2, fun i hi => ?_⟩
                      by_cases e : i = d
                      · subst e; exact HN.out
                      · exact HB.out i (by omega)
                    · omega
                    · exact sd
                · exact sd
              | some y =>
                have HF := Lib.hid hfi
                have hxl := hfl y hx
                rw [hsl] at hxl
                have hS : sqF l H hi = some (y, d) := tryF_hit hsb HB.out hd2
                have e := HER.out
                rw [hS] at e
                dsimp only at e
                subst e
                have HXL := Lib.hid hxl
                clear hfi hsb hx hfl hxl hS
                repeat first | refine lwp_seq fun K hK => ?_ | (with_reducible refine gA ?_; apply_assumption -exfalso -symm) | refine Stp.h ?_ | refine gF rfl ?_ | refine gG rfl ?_ | refine gM hC rfl sd ?_
                (refine lwp_region hC ⟨[], [], [(2, { f := 63, hin := flIn l H lo hi (sqN l), args := [.ptr 5 0 0 0, i64 ((0 : Nat) : Int), i64 d], hout := [(3, .obj (.ix (nmJ l))), (4, .row 3 l.length 1 (.ints .i64 y))], ret := bl true, σ := [(0, some 0), (1, some 1), (2, some 2), (3, some 6), (4, some 8), (5, some 9)] })]⟩ (told1 _ (by rw [hP]; exact (calls_cons (HF.out) calls_nil))) rfl ?_ ?_; rotate_left 1)
                · repeat first | refine lwp_seq fun K hK => ?_ | (with_reducible refine gA ?_; apply_assumption -exfalso -symm) | refine Stp.h ?_ | refine gF rfl ?_ | refine gG rfl ?_ | refine gM hC rfl sd ?_
                  refine lwp_condS hC rfl sd ?_ ?_ <;> intro hb
                  · clear hb
                    repeat first | refine lwp_seq fun K hK => ?_ | (with_reducible refine gA ?_; apply_assumption -exfalso -symm) | refine Stp.h ?_ | refine gF rfl ?_ | refine gG rfl ?_ | refine gM hC rfl sd ?_
                    refine lwp_condS hC rfl sd ?_ ?_ <;> intro hb
                    · simp at hb
                    · clear hb
                      repeat first | refine lwp_seq fun K hK => ?_ | (with_reducible refine gA ?_; apply_assumption -exfalso -symm) | refine Stp.h ?_ | refine gF rfl ?_ | refine gG rfl ?_ | refine gM hC rfl sd ?_
                      (refine end_intro (by first | exact .inr rfl | exact .inl rfl) [(4, some 8)] rfl ?_)
                      rw [HXL.out]
                      exact sd
                  · simp at hb
                · exact sd
            · obtain rfl : d = H.length := by omega
              have hS : sqF l H hi = none := tryF_none HB.out
              have e := HER.out
              rw [hS] at e
              dsimp only at e
              subst e
              clear hb hS
              repeat first | refine lwp_seq fun K hK => ?_ | (with_reducible refine gA ?_; apply_assumption -exfalso -symm) | refine Stp.h ?_ | refine gF rfl ?_ | refine gG rfl ?_ | refine gM hC rfl sd ?_
              refine lwp_condS hC rfl sd ?_ ?_ <;> intro hb
              · clear hb
                repeat first | refine lwp_seq fun K hK => ?_ | (with_reducible refine gA ?_; apply_assumption -exfalso -symm) | refine Stp.h ?_ | refine gF rfl ?_ | refine gG rfl ?_ | refine gM hC rfl sd ?_
                (refine end_intro (by first | exact .inr rfl | exact .inl rfl) [(4, none)] rfl ?_)
                exact sd
              · simp at hb
        · exact sd
    · exact sd
  · have e : sqR l H lo hi = ([], 0, sqE l H lo hi) := if_neg hz
    unfold Sq_i
    rw [e]
    dsimp only
    unfold jhIn Inst.ok; dsimp only; refine spec_of_body (tys := tys) 4 Tryz.func12 (by kernel_rfl) rfl tys_ok rfl (Nat.le_of_ble_eq_true rfl) (fun g i h => by simp only [List.mem_cons, List.not_mem_nil, or_false, Prod.mk.injEq] at h; omega) fun F hP hm hC hrd => ?_; conv => whnf
    repeat first | refine lwp_seq fun K hK => ?_ | (with_reducible refine gA ?_; apply_assumption -exfalso -symm) | refine Stp.h ?_ | refine gF rfl ?_ | refine gG rfl ?_ | refine gM hC rfl sd ?_
    refine lwp_scope ?_
    repeat first | refine lwp_seq fun K hK => ?_ | (with_reducible refine gA ?_; apply_assumption -exfalso -symm) | refine Stp.h ?_ | refine gF rfl ?_ | refine gG rfl ?_ | refine gM hC rfl sd ?_
    (refine lwp_drawn hC (by rw [hP]; exact mixed) ⟨[], [], [(1, CJb_i l [(0, some 0), (1, some 1), (2, some 3)]), (3, Heat_i H [(0, some 2)]), (5, PBand_i lo hi), (7, PFirst_i [jobsE l, heatE H, bandS lo hi] [(0, some 5)])]⟩ (told1 _ (by rw [hP]; exact (calls_cons (CJb_s _ _ hl hln) (calls_cons (Heat_s _ _ (by omega)) (calls_cons (PBand_s _ _) (calls_cons (PFirst_s _ _ (by simp)) calls_nil)))))) [0, 1, 0, 7, 0, 31, 63, 127, 255] 5 rfl ?_ ?_; rotate_left 1)
    · repeat first | refine lwp_seq fun K hK => ?_ | (with_reducible refine gA ?_; apply_assumption -exfalso -symm) | refine Stp.h ?_ | refine gF rfl ?_ | refine gG rfl ?_ | refine gM hC rfl sd ?_
      refine lwp_condS hC rfl sd ?_ ?_ <;> intro hb
      · repeat first | refine lwp_seq fun K hK => ?_ | (with_reducible refine gA ?_; apply_assumption -exfalso -symm) | refine Stp.h ?_ | refine gF rfl ?_ | refine gG rfl ?_ | refine gM hC rfl sd ?_
        (refine end_intro (by first | exact .inr rfl | exact .inl rfl) [(4, none)] rfl ?_)
        exact sd
      · exact absurd hb hz
    · exact sd

end Go.Proofs.YtlhgddgoblliaaaGreatDoor
