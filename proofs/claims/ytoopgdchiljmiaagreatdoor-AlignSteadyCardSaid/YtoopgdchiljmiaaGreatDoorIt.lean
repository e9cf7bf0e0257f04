/- Chapter 5: a run registered by an alignment, the program's. -/
import Derived.Test.YtoopgdchiljmiaaGreatDoorIs
import Derived.Test.YtoopgdchiljmiaaGreatDoorEj
set_option linter.unusedVariables false
set_option linter.unusedSimpArgs false
namespace Go.Proofs.YtoopgdchiljmiaaGreatDoor
open Go.RowKit Go.Sym

def rnN : Rn := ⟨⟨#[]⟩, 0, [], []⟩
def pgE (m s : List Th) (l : List (Int × Int)) (t : Rn) : Int := firstS [checkPairsS m s l, runE t, whenS (decide ((l.length : Int) = 0)) 12, whenS (decide ((t.smp.length : Int) = 0)) 16]
def rgQ (m s : List Th) (l : List (Int × Int)) (t : Rn) : Rn × Int := if pgE m s l t ≠ 0 then (rnN, pgE m s l t) else if cgE m s l t ≠ 0 then (rnN, cgE m s l t) else (mdR t.name (frS m s l t) (regA m s l t t.smp.length), 0)
theorem pg_zero {m s : List Th} {l : List (Int × Int)} {t : Rn} (h : pgE m s l t = 0) (hl : t.holes.length ≤ 100000) : RgOk m s l t ∧ checkPairsS m s l = 0 ∧ runE t = 0 := by
  unfold pgE at h
  rw [firstS_cons, firstS_cons, firstS_cons, firstS_cons, whenS_zero (by decide), whenS_zero (by decide)] at h
  obtain ⟨h1, h2, h3, h4, _⟩ := h
  have h3 := of_decide_eq_false h3
  have h4 := of_decide_eq_false h4
  obtain ⟨v, e⟩ := vr_of h2 hl
  exact ⟨⟨good_of h1, by omega, v, by omega, e⟩, h1, h2⟩
theorem zero_rd (n : Nat) : (rdC (List.replicate n (0, false))).cells = (zeroCont (.agg #[.float .f32 0, .bool false]) n 2).cells := by
  rw [show (rdC (List.replicate n (0, false))).cells = (Cont.gen (List.replicate n (0, false)).length 2 fun q => rdV ((List.replicate n (0, false)).getD q (0, false))).cells from rfl, List.length_replicate]
  refine gen_congr fun k hk => ?_
  rw [List.getD_eq_getElem?_getD, List.getElem?_replicate, if_pos hk]
  rfl
def PReg_i (m s : List Th) (l : List (Int × Int)) (t : Rn) (σ : Ren) : Inst := { f := 39, hin := regIn m s l t, args := [rdA m s, .sl 2 l.length, rnA 3 4 t], hout := [(5, .row 134 (rgQ m s l t).1.smp.length 1 (flC (rgQ m s l t).1.smp)), (6, .row 168 (rgQ m s l t).1.holes.length 2 (spC (rgQ m s l t).1.holes))], ret := .tup [rnA 5 6 (rgQ m s l t).1, i64 (rgQ m s l t).2], σ := σ }
set_option maxRecDepth 20000 in
set_option maxHeartbeats 8000000 in
theorem PReg_s (m s : List Th) (l : List (Int × Int)) (t : Rn) (σ : Ren) (hm' : m.length ≤ 1000000) (hs' : s.length ≤ 1000000) (hl' : l.length ≤ 1000000) (h1 : t.smp.length ≤ 100000) (h2 : t.holes.length ≤ 100000) : (PReg_i m s l t σ).ok Tryz.prog := by
  unfold PReg_i Inst.ok; dsimp only; refine spec_of_body (tys := tys) 5 Tryz.func39 (by kernel_rfl) rfl tys_ok rfl (Nat.le_of_ble_eq_true rfl) (fun _ _ h => (by cases h)) fun F hP hm hC hrd => ?_; conv => whnf
  repeat first | refine lwp_seq fun K hK => ?_ | ((with_reducible refine gA ?_); apply_assumption -exfalso -symm) | refine gB ?_ | refine gC ?_ | refine gD ?_ | refine gE ?_ | refine gF rfl ?_ | refine gG rfl ?_ | refine gH ?_ | refine gI ?_ | refine gJ ?_ | refine gK ?_ | refine gL ?_ | refine lwp_region hC ⟨[], [], []⟩ (told0 _ _) rfl ⟨⟩ ?_
  (refine lwp_drawn hC (by rw [hP]; exact mixed) ⟨[], [], [(2, Pairs_i m s l [(0, some 0), (1, some 1), (2, some 2)]), (4, SRun_i t [(0, some 3), (1, some 4)]), (8, AWhen_i (decide ((l.length : Int) = 0)) 12), (13, AWhen_i (decide ((t.smp.length : Int) = 0)) 16), (15, AFirst_i [checkPairsS m s l, runE t, whenS (decide ((l.length : Int) = 0)) 12, whenS (decide ((t.smp.length : Int) = 0)) 16] [(0, some 8)])]⟩ (told1 _ (by rw [hP]; exact (calls_cons (Pairs_s _ _ _ _ hm' hs' hl') (calls_cons (SRun_s _ _ h1 h2) (calls_cons (AWhen_s _ _) (calls_cons (AWhen_s _ _) (calls_cons (AFirst_s _ _ (by simp)) calls_nil))))))) [0, 0, 3, 0, 15, 0, 32, 96, 255, 0, 512, 1536, 3584, 8191, 16383, 32767, 65535] 13 rfl ?_ ?_; rotate_left 1)
  · repeat first | refine lwp_seq fun K hK => ?_ | ((with_reducible refine gA ?_); apply_assumption -exfalso -symm) | refine gB ?_ | refine gC ?_ | refine gD ?_ | refine gE ?_ | refine gF rfl ?_ | refine gG rfl ?_ | refine gH ?_ | refine gI ?_ | refine gJ ?_ | refine gK ?_ | refine gL ?_ | refine lwp_region hC ⟨[], [], []⟩ (told0 _ _) rfl ⟨⟩ ?_
    (refine lwp_cond hC rfl (by first | exact ⟨⟩ | exact sd) (fun hb => ?_) (fun hb => ?_) <;> (try simp only [decide_eq_true_eq, decide_eq_false_iff_not, Bool.not_eq_true', Bool.not_eq_false', ne_eq, Decidable.not_not] at hb))
    · have hE : rgQ m s l t = (rnN, pgE m s l t) := if_pos hb
      repeat first | refine lwp_seq fun K hK => ?_ | ((with_reducible refine gA ?_); apply_assumption -exfalso -symm) | refine gB ?_ | refine gC ?_ | refine gD ?_ | refine gE ?_ | refine gF rfl ?_ | refine gG rfl ?_ | refine gH ?_ | refine gI ?_ | refine gJ ?_ | refine gK ?_ | refine gL ?_ | refine lwp_region hC ⟨[], [], []⟩ (told0 _ _) rfl ⟨⟩ ?_ | refine lwp_region hC ⟨[], [], []⟩ (told0 _ _) rfl (by exact sd) ?_
      rw [hE]
      (refine end_intro (by first | exact .inr rfl | exact .inl rfl) [(5, none), (6, none)] rfl ?_)
      unfold rnN
      exact sd
    · have hz : pgE m s l t = 0 := hb
      clear hb
      obtain ⟨hr, hpz, hrz⟩ := pg_zero hz h2
      have hf := hr.v.f
      have hn0 := hr.n
      have he := hr.e
      have hg := hr.g
      have h0 := hr.h0
      have hnn := hr.v.n
      have hft := hr.fr
      repeat first | refine lwp_seq fun K hK => ?_ | ((with_reducible refine gA ?_); apply_assumption -exfalso -symm) | refine gB ?_ | refine gC ?_ | refine gD ?_ | refine gE ?_ | refine gF rfl ?_ | refine gG rfl ?_ | refine gH ?_ | refine gI ?_ | refine gJ ?_ | refine gK ?_ | refine gL ?_ | refine lwp_region hC ⟨[], [], []⟩ (told0 _ _) rfl ⟨⟩ ?_
      (refine lwp_drawn hC (by rw [hP]; exact mixed) ⟨[], [], [(4, PGuess_i m s t.first l [(0, some 0), (1, some 1), (2, some 2)]), (14, PGuess_i m s (t.first + t.smp.length - 1) l [(0, some 0), (1, some 1), (2, some 2)])]⟩ (told1 _ (by rw [hP]; exact (calls_cons (PGuess_s _ _ _ _ _ hg (by omega) (by omega)) (calls_cons (PGuess_s _ _ _ _ _ hg (by omega) (by omega)) calls_nil)))) [0, 0, 0, 4, 15, 0, 0, 0, 128, 0, 512, 1536, 3968, 8064, 16383, 32767, 65535] 14 rfl ?_ ?_; rotate_left 1)
      · rw [show guessS m s t.first l (-1, -1) = frS m s l t from rfl, show guessS m s (t.first + t.smp.length - 1) l (-1, -1) = toS m s l t from rfl]
        repeat first | refine lwp_seq fun K hK => ?_ | ((with_reducible refine gA ?_); apply_assumption -exfalso -symm) | refine gB ?_ | refine gC ?_ | refine gD ?_ | refine gE ?_ | refine gF rfl ?_ | refine gG rfl ?_ | refine gH ?_ | refine gI ?_ | refine gJ ?_ | refine gK ?_ | refine gL ?_ | refine lwp_region hC ⟨[], [], []⟩ (told0 _ _) rfl ⟨⟩ ?_
        (refine lwp_region hC ⟨[], [], [(1, AWithin_i (frS m s l t) 0 99999999), (3, AWithin_i (toS m s l t) 0 99999999), (8, AWhen_i (decide (4096 ≤ toS m s l t - frS m s l t)) 5), (10, AFirst_i [withinS (frS m s l t) 0 99999999, withinS (toS m s l t) 0 99999999, whenS (decide (4096 ≤ toS m s l t - frS m s l t)) 5] [(0, some 9)])]⟩ (told1 _ (by rw [hP]; exact (calls_cons (AWithin_s _ _ _) (calls_cons (AWithin_s _ _ _) (calls_cons (AWhen_s _ _) (calls_cons (AFirst_s _ _ (by simp)) calls_nil)))))) rfl ?_ ?_; rotate_left 1)
        · repeat first | refine lwp_seq fun K hK => ?_ | ((with_reducible refine gA ?_); apply_assumption -exfalso -symm) | refine gB ?_ | refine gC ?_ | refine gD ?_ | refine gE ?_ | refine gF rfl ?_ | refine gG rfl ?_ | refine gH ?_ | refine gI ?_ | refine gJ ?_ | refine gK ?_ | refine gL ?_ | refine lwp_region hC ⟨[], [], []⟩ (told0 _ _) rfl ⟨⟩ ?_
          (refine lwp_cond hC rfl (by first | exact ⟨⟩ | exact sd) (fun hb => ?_) (fun hb => ?_) <;> (try simp only [decide_eq_true_eq, decide_eq_false_iff_not, Bool.not_eq_true', Bool.not_eq_false', ne_eq, Decidable.not_not] at hb))
          · have hE : rgQ m s l t = (rnN, cgE m s l t) := by unfold rgQ; rw [if_neg (by rw [hz]; decide)]; exact if_pos hb
            repeat first | refine lwp_seq fun K hK => ?_ | ((with_reducible refine gA ?_); apply_assumption -exfalso -symm) | refine gB ?_ | refine gC ?_ | refine gD ?_ | refine gE ?_ | refine gF rfl ?_ | refine gG rfl ?_ | refine gH ?_ | refine gI ?_ | refine gJ ?_ | refine gK ?_ | refine gL ?_ | refine lwp_region hC ⟨[], [], []⟩ (told0 _ _) rfl ⟨⟩ ?_ | refine lwp_region hC ⟨[], [], []⟩ (told0 _ _) rfl (by exact sd) ?_
            rw [hE]
            (refine end_intro (by first | exact .inr rfl | exact .inl rfl) [(5, none), (6, none)] rfl ?_)
            unfold rnN
            exact sd
          · have hcz : cgE m s l t = 0 := hb
            have hE : rgQ m s l t = (mdR t.name (frS m s l t) (regA m s l t t.smp.length), 0) := by unfold rgQ; rw [if_neg (by rw [hz]; decide), if_neg (by rw [hcz]; decide)]
            clear hb
            obtain ⟨z1, z2, z3⟩ := cg_zero hcz
            have hN : (nIx m s l t : Int) = toS m s l t - frS m s l t + 1 := by unfold nIx; omega
            have hNn : (toS m s l t - frS m s l t + 1).toNat = nIx m s l t := rfl
            generalize hNN : nIx m s l t = nn at hN hNn
            have la := readS_len t
            repeat first | refine lwp_seq fun K hK => ?_ | ((with_reducible refine gA ?_); apply_assumption -exfalso -symm) | refine gB ?_ | refine gC ?_ | refine gD ?_ | refine gE ?_ | refine gF rfl ?_ | refine gG rfl ?_ | refine gH ?_ | refine gI ?_ | refine gJ ?_ | refine gK ?_ | refine gL ?_ | refine lwp_region hC ⟨[], [], []⟩ (told0 _ _) rfl ⟨⟩ ?_
            (refine lwp_region hC ⟨[], [], []⟩ (told0 _ _) rfl ?_ ?_; rotate_left 1)
            · rw [hNn]
              repeat first | refine lwp_seq fun K hK => ?_ | ((with_reducible refine gA ?_); apply_assumption -exfalso -symm) | refine gB ?_ | refine gC ?_ | refine gD ?_ | refine gE ?_ | refine gF rfl ?_ | refine gG rfl ?_ | refine gH ?_ | refine gI ?_ | refine gJ ?_ | refine gK ?_ | refine gL ?_ | refine lwp_region hC ⟨[], [], []⟩ (told0 _ _) rfl ⟨⟩ ?_
              (refine lwp_region hC ⟨[], [], [(1, Rdg_i t [(0, some 3), (1, some 4)])]⟩ (told1 _ (by rw [hP]; exact (calls_cons (Rdg_s _ _ hr.v.ok (by omega) h2) calls_nil))) rfl ?_ ?_; rotate_left 1)
              · repeat first | refine lwp_seq fun K hK => ?_ | ((with_reducible refine gA ?_); apply_assumption -exfalso -symm) | refine gB ?_ | refine gC ?_ | refine gD ?_ | refine gE ?_ | refine gF rfl ?_ | refine gG rfl ?_ | refine gH ?_ | refine gI ?_ | refine gJ ?_ | refine gK ?_ | refine gL ?_ | refine lwp_region hC ⟨[], [], []⟩ (told0 _ _) rfl ⟨⟩ ?_
                refine lwp_loop (fun i : Nat => ⟨[(76, i64 i), (75, i64 t.smp.length), (74, .sl 11 t.smp.length), (12, .sl 10 nn), (9, i64 (frS m s l t)), (1, .sl 2 l.length), (3, .ptr 5 0 0 0), (5, .ptr 6 0 0 0), (6, .ptr 7 0 0 0)], [(11, .row 207 t.smp.length 2 (rdC (readS t))), (10, .row 207 nn 2 (rdC (regA m s l t i))), (7, .blk 72 [.lit (.string ⟨#[]⟩), i64 0, .lit (.slice none 0 0), .lit (.slice none 0 0)]), (6, .blk 72 [.lit (.string t.name), i64 t.first, .sl 3 t.smp.length, .sl 4 t.holes.length]), (5, .blk 38 [.sl 0 m.length, .sl 1 s.length]), (0, .ro m.length 2 (thC m)), (1, .ro s.length 2 (thC s)), (2, .ro l.length 2 (prC l)), (3, .ro t.smp.length 1 (flC t.smp)), (4, .ro t.holes.length 2 (spC t.holes))], 12⟩) (fun i => i ≤ t.smp.length) (fun i => t.smp.length - i) 0 ⟨?_, sub_intro hm [(0, some 0), (1, some 1), (2, some 2), (3, some 3), (4, some 4), (5, some 5), (6, some 6), (7, some 7), (10, some 10), (11, some 11)] rfl ?_⟩ ?_
                · exact Nat.zero_le _
                · have hz0 : (rdC (regA m s l t 0)).cells = (zeroCont (.agg #[.float .f32 0, .bool false]) nn 2).cells := by unfold regA rgA; rw [hNN]; exact zero_rd nn
                  simp only [All, cd_p, cp_p, cv_p]
                  (repeat' refine And.intro ?_ ?_) <;> first | trivial | rfl | exact hz0
                · rintro i hi
                  have ei : (i : Int).toNat = i := Int.toNat_natCast i
                  have hlen : (regA m s l t i).length = nn := by unfold regA; rw [rgA_len, hNN]
                  have hst : regA m s l t (i + 1) = if knownB t.holes i = true then (regA m s l t i).set (gIx m s l t i) (t.smp.getD i 0, true) else regA m s l t i := rfl
                  have hend : i = t.smp.length → regA m s l t t.smp.length = regA m s l t i := fun h => by rw [h]
                  generalize regA m s l t i = A at hlen hst hend ⊢
                  repeat first | refine lwp_seq fun K hK => ?_ | ((with_reducible refine gA ?_); apply_assumption -exfalso -symm) | refine gB ?_ | refine gC ?_ | refine gD ?_ | refine gE ?_ | refine gF rfl ?_ | refine gG rfl ?_ | refine gH ?_ | refine gI ?_ | refine gJ ?_ | refine gK ?_ | refine gL ?_ | refine lwp_region hC ⟨[], [], []⟩ (told0 _ _) rfl ⟨⟩ ?_
                  (refine lwp_cond hC rfl (by first | exact ⟨⟩ | exact sd) (fun hb => ?_) (fun hb => ?_) <;> (try simp only [decide_eq_true_eq, decide_eq_false_iff_not, Bool.not_eq_true', Bool.not_eq_false', ne_eq, Decidable.not_not] at hb))
                  · have hil : i < t.smp.length := by omega
                    clear hb hend
                    have hat := hr.at hil
                    have hgi : (gIx m s l t i : Int) = gsS m s l (t.first + i) - frS m s l t := by unfold gIx; omega
                    have hgn : (gsS m s l (t.first + i) - frS m s l t).toNat = gIx m s l t i := rfl
                    have hgk : gIx m s l t i < nn := by omega
                    have r2 := readS_known hil
                    repeat first | refine lwp_seq fun K hK => ?_ | ((with_reducible refine gA ?_); apply_assumption -exfalso -symm) | refine gB ?_ | refine gC ?_ | refine gD ?_ | refine gE ?_ | refine gF rfl ?_ | refine gG rfl ?_ | refine gH ?_ | refine gI ?_ | refine gJ ?_ | refine gK ?_ | refine gL ?_ | refine lwp_region hC ⟨[], [], []⟩ (told0 _ _) rfl ⟨⟩ ?_
                    (refine lwp_region hC ⟨[], [], []⟩ (told0 _ _) rfl ?_ ?_; rotate_left 1)
                    · rw [ei, r2]
                      repeat first | refine lwp_seq fun K hK => ?_ | ((with_reducible refine gA ?_); apply_assumption -exfalso -symm) | refine gB ?_ | refine gC ?_ | refine gD ?_ | refine gE ?_ | refine gF rfl ?_ | refine gG rfl ?_ | refine gH ?_ | refine gI ?_ | refine gJ ?_ | refine gK ?_ | refine gL ?_ | refine lwp_region hC ⟨[], [], []⟩ (told0 _ _) rfl ⟨⟩ ?_
                      (refine lwp_cond hC rfl (by first | exact ⟨⟩ | exact sd) (fun hb => ?_) (fun hb => ?_) <;> (try simp only [decide_eq_true_eq, decide_eq_false_iff_not, Bool.not_eq_true', Bool.not_eq_false', ne_eq, Decidable.not_not] at hb))
                      · rw [if_pos hb] at hst
                        have r1 := readS_smp hil hb
                        have hcell := genL_set (f := rdV) (d := (0, false)) (sz := 2) A (gIx m s l t i) 0 [.float .f32 (t.smp.getD i 0), .bool true] (t.smp.getD i 0, true) (by omega) rfl
                        rw [r1, hb]
                        clear hb
                        repeat first | refine lwp_seq fun K hK => ?_ | ((with_reducible refine gA ?_); apply_assumption -exfalso -symm) | refine gB ?_ | refine gC ?_ | refine gD ?_ | refine gE ?_ | refine gF rfl ?_ | refine gG rfl ?_ | refine gH ?_ | refine gI ?_ | refine gJ ?_ | refine gK ?_ | refine gL ?_ | refine lwp_region hC ⟨[], [], []⟩ (told0 _ _) rfl ⟨⟩ ?_
                        (refine lwp_drawn hC (by rw [hP]; exact mixed) ⟨[], [], [(7, PGuess_i m s (t.first + i) l [(0, some 0), (1, some 1), (2, some 2)])]⟩ (told1 _ (by rw [hP]; exact (calls_cons (PGuess_s _ _ _ _ _ hg (by omega) (by omega)) calls_nil))) [0, 0, 0, 0, 8, 0, 56, 126, 0, 510, 0, 2047, 4095] 11 rfl ?_ ?_; rotate_left 1)
                        · rw [show guessS m s (t.first + i) l (-1, -1) = gsS m s l (t.first + i) from rfl, hgn]
                          repeat first | refine lwp_seq fun K hK => ?_ | ((with_reducible refine gA ?_); apply_assumption -exfalso -symm) | refine gB ?_ | refine gC ?_ | refine gD ?_ | refine gE ?_ | refine gF rfl ?_ | refine gG rfl ?_ | refine gH ?_ | refine gI ?_ | refine gJ ?_ | refine gK ?_ | refine gL ?_ | refine lwp_region hC ⟨[], [], []⟩ (told0 _ _) rfl ⟨⟩ ?_ | refine lwp_region hC ⟨[], [], []⟩ (told0 _ _) rfl (by exact sd) ?_
                          refine gA ⟨i + 1, ?_, ?_, sub_intro hm [(0, some 0), (1, some 1), (2, some 2), (3, some 3), (4, some 4), (5, some 5), (6, some 6), (7, some 7), (10, some 10), (11, some 11)] rfl ?_⟩
                          · omega
                          · omega
                          · rw [hst]
                            exact sd
                        · rw [show guessS m s (t.first + i) l (-1, -1) = gsS m s l (t.first + i) from rfl, hgn]
                          exact sd
                      · rw [if_neg (by rw [hb]; decide)] at hst
                        repeat first | refine lwp_seq fun K hK => ?_ | ((with_reducible refine gA ?_); apply_assumption -exfalso -symm) | refine gB ?_ | refine gC ?_ | refine gD ?_ | refine gE ?_ | refine gF rfl ?_ | refine gG rfl ?_ | refine gH ?_ | refine gI ?_ | refine gJ ?_ | refine gK ?_ | refine gL ?_ | refine lwp_region hC ⟨[], [], []⟩ (told0 _ _) rfl ⟨⟩ ?_ | refine lwp_region hC ⟨[], [], []⟩ (told0 _ _) rfl (by exact sd) ?_
                        refine gA ⟨i + 1, ?_, ?_, sub_intro hm [(0, some 0), (1, some 1), (2, some 2), (3, some 3), (4, some 4), (5, some 5), (6, some 6), (7, some 7), (10, some 10), (11, some 11)] rfl ?_⟩
                        · omega
                        · omega
                        · rw [hst]
                          exact sd
                    · exact sd
                  · have hend := hend (by omega)
                    rw [hend] at hE
                    clear hst hend hb
                    repeat first | refine lwp_seq fun K hK => ?_ | ((with_reducible refine gA ?_); apply_assumption -exfalso -symm) | refine gB ?_ | refine gC ?_ | refine gD ?_ | refine gE ?_ | refine gF rfl ?_ | refine gG rfl ?_ | refine gH ?_ | refine gI ?_ | refine gJ ?_ | refine gK ?_ | refine gL ?_ | refine lwp_region hC ⟨[], [], []⟩ (told0 _ _) rfl ⟨⟩ ?_
                    refine lwp_loop (fun j : Nat => ⟨[(102, i64 j), (101, i64 nn), (100, .sl 10 nn), (15, .ptr 12 0 0 0), (6, .ptr 7 0 0 0)], [(14, .row 168 (mdH (A.map fun x => x.2) j).length 2 (spC (mdH (A.map fun x => x.2) j))), (13, .row 134 j 1 (flC ((A.map fun x => x.1).take j))), (12, .blk 72 [.lit (.string t.name), i64 (frS m s l t), .sl 13 j, .sl 14 (mdH (A.map fun x => x.2) j).length]), (10, .row 207 nn 2 (rdC A)), (7, .blk 72 [.lit (.string ⟨#[]⟩), i64 0, .lit (.slice none 0 0), .lit (.slice none 0 0)]), (0, .ro m.length 2 (thC m)), (1, .ro s.length 2 (thC s)), (2, .ro l.length 2 (prC l)), (3, .ro t.smp.length 1 (flC t.smp)), (4, .ro t.holes.length 2 (spC t.holes))], 15⟩) (fun j => j ≤ nn) (fun j => nn - j) 0 ⟨?_, sub_intro hm [(0, some 0), (1, some 1), (2, some 2), (3, some 3), (4, some 4), (7, some 7), (10, some 10), (12, some 12), (13, none), (14, none)] rfl ?_⟩ ?_
                    · exact Nat.zero_le _
                    · unfold mdH
                      exact sd
                    · rintro j hj
                      have ej : (j : Int).toNat = j := Int.toNat_natCast j
                      have hHl := mdH_len (A.map fun x => x.2) j
                      have hst : mdH (A.map fun x => x.2) (j + 1) = if (A.map fun x => x.2).getD j false = true then mdH (A.map fun x => x.2) j else lngS (mdH (A.map fun x => x.2) j) j := rfl
                      have hend : j = nn → mdH (A.map fun x => x.2) A.length = mdH (A.map fun x => x.2) j := fun h => by rw [hlen, h]
                      generalize mdH (A.map fun x => x.2) j = B at hHl hst hend ⊢
                      repeat first | refine lwp_seq fun K hK => ?_ | ((with_reducible refine gA ?_); apply_assumption -exfalso -symm) | refine gB ?_ | refine gC ?_ | refine gD ?_ | refine gE ?_ | refine gF rfl ?_ | refine gG rfl ?_ | refine gH ?_ | refine gI ?_ | refine gJ ?_ | refine gK ?_ | refine gL ?_ | refine lwp_region hC ⟨[], [], []⟩ (told0 _ _) rfl ⟨⟩ ?_
                      (refine lwp_cond hC rfl (by first | exact ⟨⟩ | exact sd) (fun hb => ?_) (fun hb => ?_) <;> (try simp only [decide_eq_true_eq, decide_eq_false_iff_not, Bool.not_eq_true', Bool.not_eq_false', ne_eq, Decidable.not_not] at hb))
                      · have hjl : j < nn := by omega
                        clear hb hend
                        have htk : (A.map fun x => x.1).take (j + 1) = (A.map fun x => x.1).take j ++ [(A.map fun x => x.1).getD j 0] := take_snoc _ _ _ (by rw [List.length_map]; omega)
                        have hfl := flC_snoc ((A.map fun x => x.1).take j) ((A.map fun x => x.1).getD j 0)
                        rw [← htk, map_at (fun x : Nat × Bool => x.1) (0, false) 0 A j (by omega)] at hfl
                        rw [map_at (fun x : Nat × Bool => x.2) (0, false) false A j (by omega)] at hst
                        generalize hxx : A.getD j (0, false) = x at hfl hst
                        repeat first | refine lwp_seq fun K hK => ?_ | ((with_reducible refine gA ?_); apply_assumption -exfalso -symm) | refine gB ?_ | refine gC ?_ | refine gD ?_ | refine gE ?_ | refine gF rfl ?_ | refine gG rfl ?_ | refine gH ?_ | refine gI ?_ | refine gJ ?_ | refine gK ?_ | refine gL ?_ | refine lwp_region hC ⟨[], [], []⟩ (told0 _ _) rfl ⟨⟩ ?_
                        (refine lwp_region hC ⟨[], [], []⟩ (told0 _ _) rfl ?_ ?_; rotate_left 1)
                        · rw [ej, hxx]
                          repeat first | refine lwp_seq fun K hK => ?_ | ((with_reducible refine gA ?_); apply_assumption -exfalso -symm) | refine gB ?_ | refine gC ?_ | refine gD ?_ | refine gE ?_ | refine gF rfl ?_ | refine gG rfl ?_ | refine gH ?_ | refine gI ?_ | refine gJ ?_ | refine gK ?_ | refine gL ?_ | refine lwp_region hC ⟨[], [], []⟩ (told0 _ _) rfl ⟨⟩ ?_ | refine lwp_region hC ⟨[], [], []⟩ (told0 _ _) rfl (by exact sd) ?_
                          (refine lwp_cond hC rfl (by first | exact ⟨⟩ | exact sd) (fun hb => ?_) (fun hb => ?_) <;> (try simp only [decide_eq_true_eq, decide_eq_false_iff_not, Bool.not_eq_true', Bool.not_eq_false', ne_eq, Decidable.not_not] at hb))
                          · have hk : x.2 = false := by simpa using hb
                            rw [if_neg (by rw [hk]; decide)] at hst
                            clear hb
                            repeat first | refine lwp_seq fun K hK => ?_ | ((with_reducible refine gA ?_); apply_assumption -exfalso -symm) | refine gB ?_ | refine gC ?_ | refine gD ?_ | refine gE ?_ | refine gF rfl ?_ | refine gG rfl ?_ | refine gH ?_ | refine gI ?_ | refine gJ ?_ | refine gK ?_ | refine gL ?_ | refine lwp_region hC ⟨[], [], []⟩ (told0 _ _) rfl ⟨⟩ ?_
                            (refine lwp_region hC ⟨[], [], [(3, Len_i B j [(0, some 14)])]⟩ (told1 _ (by rw [hP]; exact (calls_cons (Len_s _ _ _ (by omega) (by omega)) calls_nil))) rfl ?_ ?_; rotate_left 1)
                            · repeat first | refine lwp_seq fun K hK => ?_ | ((with_reducible refine gA ?_); apply_assumption -exfalso -symm) | refine gB ?_ | refine gC ?_ | refine gD ?_ | refine gE ?_ | refine gF rfl ?_ | refine gG rfl ?_ | refine gH ?_ | refine gI ?_ | refine gJ ?_ | refine gK ?_ | refine gL ?_ | refine lwp_region hC ⟨[], [], []⟩ (told0 _ _) rfl ⟨⟩ ?_ | refine lwp_region hC ⟨[], [], []⟩ (told0 _ _) rfl (by exact sd) ?_
                              refine gA ⟨j + 1, ?_, ?_, sub_intro hm [(0, some 0), (1, some 1), (2, some 2), (3, some 3), (4, some 4), (7, some 7), (10, some 10), (12, some 12), (13, some 18), (14, some 20)] rfl ?_⟩
                              · omega
                              · omega
                              · rw [hst]
                                exact sd
                            · exact sd
                          · have hk : x.2 = true := by simpa using hb
                            rw [if_pos hk] at hst
                            clear hb
                            repeat first | refine lwp_seq fun K hK => ?_ | ((with_reducible refine gA ?_); apply_assumption -exfalso -symm) | refine gB ?_ | refine gC ?_ | refine gD ?_ | refine gE ?_ | refine gF rfl ?_ | refine gG rfl ?_ | refine gH ?_ | refine gI ?_ | refine gJ ?_ | refine gK ?_ | refine gL ?_ | refine lwp_region hC ⟨[], [], []⟩ (told0 _ _) rfl ⟨⟩ ?_ | refine lwp_region hC ⟨[], [], []⟩ (told0 _ _) rfl (by exact sd) ?_
                            refine gA ⟨j + 1, ?_, ?_, sub_intro hm [(0, some 0), (1, some 1), (2, some 2), (3, some 3), (4, some 4), (7, some 7), (10, some 10), (12, some 12), (13, some 18), (14, some 14)] rfl ?_⟩
                            · omega
                            · omega
                            · rw [hst]
                              exact sd
                        · exact sd
                      · have e : j = nn := by omega
                        have hend := hend e
                        have hw : (A.map fun x => x.1).take j = A.map fun x => x.1 := List.take_of_length_le (by rw [List.length_map]; omega)
                        rw [hw]
                        repeat first | refine lwp_seq fun K hK => ?_ | ((with_reducible refine gA ?_); apply_assumption -exfalso -symm) | refine gB ?_ | refine gC ?_ | refine gD ?_ | refine gE ?_ | refine gF rfl ?_ | refine gG rfl ?_ | refine gH ?_ | refine gI ?_ | refine gJ ?_ | refine gK ?_ | refine gL ?_ | refine lwp_region hC ⟨[], [], []⟩ (told0 _ _) rfl ⟨⟩ ?_
                        rw [hE]
                        unfold mdR
                        rw [hend]
                        (refine end_intro (by first | exact .inr rfl | exact .inl rfl) [(5, some 13), (6, some 14)] rfl ?_)
                        simp only [All, cd_p, cp_p, cv_p, List.length_map, hlen]
                        (repeat' refine And.intro ?_ ?_) <;> first | trivial | rfl | omega
              · exact sd
            · exact sd
        · exact sd
      · exact sd
  · exact sd

end Go.Proofs.YtoopgdchiljmiaaGreatDoor
