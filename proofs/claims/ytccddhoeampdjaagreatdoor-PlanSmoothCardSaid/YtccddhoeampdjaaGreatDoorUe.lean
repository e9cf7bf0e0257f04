/- Chapter 9: the best lifts: the program's. -/
import Derived.Test.YtccddhoeampdjaaGreatDoorUd
set_option linter.unusedVariables false
set_option linter.unusedSimpArgs false
namespace Go.Proofs.YtccddhoeampdjaaGreatDoor
open Go.RowKit Go.Sym

theorem desE_ok {lv tg : List Int} {m r : Int} (h : desE lv tg m r = 0) : lvOk lv ∧ lvOk tg ∧ 0 < lv.length ∧ lv.length = tg.length ∧ (0 ≤ m ∧ m ≤ 12) ∧ (1 ≤ r ∧ r ≤ 12) := by
  have h1 := (firstS_cons _ _).1 h
  have h2 := (firstS_cons _ _).1 h1.2
  have h3 := (firstS_cons _ _).1 h2.2
  have h4 := ((firstS_cons _ _).1 h3.2).1
  have h5 := (firstS_cons _ _).1 h4
  have a := of_decide_eq_false ((whenS_zero (by decide)).1 h3.1)
  exact ⟨lvOk_of h1.1, lvOk_of h2.1, (levE_ok h1.1).1, by omega, withinS_zero.1 h5.1, withinS_zero.1 ((firstS_cons _ _).1 h5.2).1⟩
theorem feasD_all {most : Nat} {ramp : Int} : ∀ {cs : List (Int × Int)} {b : Int} {L : List Int}, feasD most ramp cs b L → L.length = cs.length ∧ ∀ x ∈ L, 0 ≤ x ∧ x ≤ most
  | [], _, [], _ => ⟨rfl, fun x hx => by cases hx⟩
  | [], _, x :: L, h => h.elim
  | c :: r, _, [], h => h.elim
  | c :: r, b, x :: L, ⟨hx, _, hf⟩ => by
    obtain ⟨h1, h2⟩ := feasD_all hf
    refine ⟨by simp [h1], fun y hy => ?_⟩
    rcases List.mem_cons.1 hy with rfl | hy
    · exact hx
    · exact h2 y hy
theorem bestD_drop {most : Nat} {ramp : Int} : ∀ {cs : List (Int × Int)} {b : Int} {p : Int × List Int}, bestD most ramp cs b = some p → ∀ i, i ≤ cs.length → ∃ c, bestD most ramp (cs.drop i) ((b :: p.2).getD i 0) = some (c, p.2.drop i)
  | [], b, p, h, i, hi => by
    obtain rfl : i = 0 := by simpa using hi
    exact ⟨p.1, h⟩
  | c :: r, b, p, h, 0, hi => ⟨p.1, h⟩
  | c :: r, b, p, h, i + 1, hi => by
    obtain ⟨n, q, _, _, n3, rfl, _⟩ := bestN_is (show bestN (bestD most ramp r) (missI c.1 c.2) (fun n => nearB ramp n b) (most + 1) = some p from h)
    exact bestD_drop n3 i (by simpa using hi)
def befD (L : List Int) (i : Nat) : Int := (0 :: L).getD i 0
/-- What the second half finds at a column. -/
structure PickAt (most : Nat) (ramp : Int) (cs : List (Int × Int)) (L : List Int) (i : Nat) (c : Int) (n : Nat) : Prop where
  n12 : n ≤ 12
  is : L.getD i 0 = n
  next : befD L (i + 1) = n
  want : leastN (restF most ramp (cs.drop i)) (fun m => nearB ramp m (befD L i)) 13 = c
  near : nearB ramp n (befD L i) = true
  hit : restF most ramp (cs.drop i) n = c
  no : ∀ m : Nat, m < n → nearB ramp m (befD L i) = true → restF most ramp (cs.drop i) m ≠ c
theorem pick_at {most : Nat} {ramp : Int} {cs : List (Int × Int)} {p : Int × List Int} (hm : most ≤ 12) (hr : 0 ≤ ramp) (hc : colOk most 4048156 cs) (hl : cs.length ≤ 24) (hp : bestD most ramp cs 0 = some p) {i : Nat} (hi : i < cs.length) (hb : 0 ≤ befD p.2 i) : ∃ c n, PickAt most ramp cs p.2 i c n := by
  obtain ⟨c0, h1⟩ := bestD_drop hp i (by omega)
  have hlen := (feasD_all (bestD_feas hp).1).1
  have e : cs.drop i = cs[i] :: cs.drop (i + 1) := List.drop_eq_getElem_cons hi
  have hc' := colOk_drop hc i
  have hK : ((cs.drop i).length : Int) * 4048156 < neverI := by
    rw [List.length_drop]; unfold neverI; omega
  have ht := (table_best hm hr (K := 4048156) (by decide) hc' hK hb).1
  have h1' : bestD most ramp (cs.drop i) (befD p.2 i) = some (c0, p.2.drop i) := h1
  rw [h1'] at ht
  rw [e] at hc' hK h1'
  obtain ⟨n, q, n1, n2, n3, n4, n5, n6⟩ := pick_is hm hr (K := 4048156) (by decide) hc' hK h1'
  rw [← e] at n5 n6
  have n4 := congrArg Prod.snd n4
  have n4 : p.2.drop i = (n : Int) :: q.2 := n4
  have hn : p.2.getD i 0 = n := by
    have := congrArg (fun l => l.getD 0 0) n4
    simpa [List.getD] using this
  exact ⟨c0, n, ⟨by omega, hn, hn, ht, n2, n5, n6⟩⟩
def dsP (lv tg : List Int) (m r : Int) : Int × List Int := (bestD m.toNat r (lv.zip tg) 0).getD (0, [])
def dsL (lv tg : List Int) (m r : Int) : List Int := if desE lv tg m r = 0 then (dsP lv tg m r).2 else []
def dsC (lv tg : List Int) (m r : Int) : Int := if desE lv tg m r = 0 then (dsP lv tg m r).1 else 0
theorem dsP_is {lv tg : List Int} {m r : Int} (h : desE lv tg m r = 0) : bestD m.toNat r (lv.zip tg) 0 = some (dsP lv tg m r) := by
  obtain ⟨_, _, _, _, _, h6⟩ := desE_ok h
  obtain ⟨p, hp⟩ := bestD_some (most := m.toNat) (ramp := r) (by omega) (lv.zip tg)
  unfold dsP
  rw [hp]; rfl
theorem zero13 (n : Nat) (l : List Value) (hl : l = List.replicate 13 (.int .i64 0)) : (Cont.gen n 13 fun _ => l).cells = (Cont.ints .i64 (List.replicate (n * 13) 0)).cells := by
  subst hl
  have key : ∀ j, j < 13 → (List.replicate 13 (Value.int .i64 0)).getD j undef = .int .i64 0 := fun j hj => by
    rw [List.getD_eq_getElem?_getD, List.getElem?_replicate, if_pos hj]; rfl
  refine List.ext_getElem? fun q => ?_
  simp only [Cont.cells, List.getElem?_map, List.getElem?_replicate]
  by_cases h : q < n * 13
  · rw [List.getElem?_range h, if_pos h]
    simp only [Option.map_some, key _ (Nat.mod_lt q (show 0 < 13 by decide))]
  · rw [if_neg h, List.getElem?_eq_none (by simpa using h)]
    rfl
theorem zero13Z (n : Nat) : (Cont.ints .i64 (List.replicate (n * 13) 0)).cells = (zeroCont (.agg #[.int .i64 0, .int .i64 0, .int .i64 0, .int .i64 0, .int .i64 0, .int .i64 0, .int .i64 0, .int .i64 0, .int .i64 0, .int .i64 0, .int .i64 0, .int .i64 0, .int .i64 0]) n 13).cells := (zero13 n _ rfl).symm
theorem neverIs {most : Nat} {ramp : Int} {cs : List (Int × Int)} {i k : Nat} (hi : i < cs.length) (hk : (k : Int) > most) : (1099511627776 : Int) = restF most ramp (cs.drop i) (k : Int) := by
  rw [List.drop_eq_getElem_cons hi]
  exact (if_pos hk).symm
theorem endIs {most : Nat} {ramp : Int} {cs : List (Int × Int)} {i k : Nat} (hi : i = cs.length) : restF most ramp (cs.drop i) (k : Int) = if (k : Int) > 0 then 1099511627776 else 0 := by
  subst hi
  rw [List.drop_length]
  rfl
theorem restIs {most : Nat} {ramp : Int} {lv tg : List Int} {i k : Nat} (h1 : i < lv.length) (h2 : i < tg.length) (hk : ¬ (k : Int) > most) : missI (lv.getD i 0) (tg.getD i 0) k + leastN (restF most ramp ((lv.zip tg).drop (i + 1))) (fun m => nearB ramp m k) 13 = restF most ramp ((lv.zip tg).drop i) (k : Int) := by
  rw [zip_drop h1 h2]
  exact (if_neg hk).symm
def Dsg_i (lv tg : List Int) (m r : Int) (σ : Ren) : Inst := { f := 40, hin := twoIn lv tg, args := [.sl 0 lv.length, .sl 1 tg.length, .agg [i64 m, i64 r]], hout := [(2, .row 3 (dsL lv tg m r).length 1 (.ints .i64 (dsL lv tg m r)))], ret := .tup [.sl 2 (dsL lv tg m r).length, i64 (dsC lv tg m r), i64 (desE lv tg m r)], σ := σ }
set_option maxRecDepth 20000 in
set_option maxHeartbeats 4000000 in
theorem Dsg_s (lv tg : List Int) (m r : Int) (σ : Ren) (h1 : lv.length ≤ 1000000) (h2 : tg.length ≤ 1000000) : (Dsg_i lv tg m r σ).ok Tryz.prog := by
  by_cases hz : desE lv tg m r = 0
  · have e1 : dsL lv tg m r = (dsP lv tg m r).2 := if_pos hz
    have e2 : dsC lv tg m r = (dsP lv tg m r).1 := if_pos hz
    have hp := dsP_is hz
    obtain ⟨hL, hT, h0, hlen, hM, hR⟩ := desE_ok hz
    unfold Dsg_i
    rw [e1, e2]
    have hpe : ∃ p, dsP lv tg m r = p := ⟨_, rfl⟩
    obtain ⟨p, hpe⟩ := hpe
    rw [hpe] at hp ⊢
    clear hpe e1 e2
    have hDs := Des_s lv tg m r [(0, some 0), (1, some 1)] h1 h2
    unfold Des_i at hDs
    rw [hz] at hDs ⊢
    obtain ⟨M, rfl⟩ : ∃ M : Nat, m = M := ⟨m.toNat, by omega⟩
    rw [Int.toNat_natCast] at hp
    have hM12 : M ≤ 12 := by omega
    have hcs : (lv.zip tg).length = lv.length := by rw [List.length_zip]; omega
    have hcol := colOk_zip hL hT hM12
    obtain ⟨hpl, hpa⟩ := feasD_all (bestD_feas hp).1
    have hbef : ∀ i, 0 ≤ befD p.2 i ∧ befD p.2 i ≤ 12 := by
      have := lfOk_of (L := 0 :: p.2) fun x hx => by
        rcases List.mem_cons.1 hx with rfl | hx
        · decide
        · have := hpa x hx; omega
      exact this
    have hpick : ∀ i, i < lv.length → ∃ c n, PickAt M r (lv.zip tg) p.2 i c n := fun i hi => pick_at hM12 (by omega) hcol (by have := hL.1; omega) hp (by omega) (hbef i).1
    have hcost : leastN (restF M r ((lv.zip tg).drop 0)) (fun m => nearB r m 0) 13 = p.1 := by
      have := (table_best hM12 (ramp := r) (by omega) (K := 4048156) (by decide) hcol (by have := hL.1; rw [hcs]; unfold neverI; omega) (b := 0) (by decide)).1
      rw [hp] at this
      exact this
    have hl24 := hL.1
    have hrest := fun i => restF_in (ramp := r) (colOk_drop hcol i)
    have hmiss := fun i => fun k : Nat => fun hk : k ≤ 12 => (miss_in (hL.2 i) (hT.2 i) (x := (k : Int)) (by omega))
    have HL := Lib.hid hL
    have HT := Lib.hid hT
    have HB := Lib.hid hbef
    have HP := Lib.hid hpick
    have HC := Lib.hid hcost
    have HRS := Lib.hid hrest
    have HMS := Lib.hid hmiss
    clear hL hT hbef hpick hcost hrest hmiss hcol hp hpa
    obtain ⟨cs, hcse⟩ : ∃ cs, lv.zip tg = cs := ⟨_, rfl⟩
    rw [hcse] at hcs hpl HP HC HRS
    have HCS := Lib.hid hcse
    clear hcse
    have HDS := Lib.hid hDs
    clear hDs hz
    unfold twoIn Inst.ok; dsimp only; refine spec_of_body (tys := tys) 2 Tryz.func40 (by kernel_rfl) rfl tys_ok rfl (Nat.le_of_ble_eq_true rfl) (fun _ _ h => (by cases h)) fun F hP hm hC hrd => ?_; conv => whnf
    repeat first | refine lwp_seq fun K hK => ?_ | (with_reducible refine gA ?_; apply_assumption -exfalso -symm) | refine Stp.h ?_ | refine gF rfl ?_ | refine gG rfl ?_ | refine gM hC rfl sd ?_
    (refine lwp_region hC ⟨[], [], [(3, { f := 109, hin := twoIn lv tg, args := [.sl 0 lv.length, .sl 1 tg.length, .agg [i64 (M : Int), i64 r]], hout := [], ret := i64 0, σ := [(0, some 0), (1, some 1)] })]⟩ (told1 _ (by rw [hP]; exact (calls_cons (HDS.out) calls_nil))) rfl ?_ ?_; rotate_left 1)
    · repeat first | refine lwp_seq fun K hK => ?_ | (with_reducible refine gA ?_; apply_assumption -exfalso -symm) | refine Stp.h ?_ | refine gF rfl ?_ | refine gG rfl ?_ | refine gM hC rfl sd ?_
      refine lwp_condS hC rfl sd ?_ ?_ <;> intro hb
      · exact absurd rfl hb
      · clear hb
        repeat first | refine lwp_seq fun K hK => ?_ | (with_reducible refine gA ?_; apply_assumption -exfalso -symm) | refine Stp.h ?_ | refine gF rfl ?_ | refine gG rfl ?_
        (refine lwp_region hC ⟨[(3, { i1 := some (lv.length + 1), i2 := some (lv.length + 1) })], [], []⟩ (told0 _ _) rfl ?_ ?_; rotate_left 1)
        · repeat first | refine lwp_seq fun K hK => ?_ | (with_reducible refine gA ?_; apply_assumption -exfalso -symm) | refine Stp.h ?_ | refine gF rfl ?_ | refine gG rfl ?_ | refine gM hC rfl sd ?_
          refine lwp_loop (fun t : Nat => ⟨[(11, i64 ((t : Int) - 1)), (10, .sl 3 (lv.length + 1)), (5, .ptr 2 0 0 0), (0, .sl 0 lv.length), (1, .sl 1 tg.length)], [(3, .row 197 (lv.length + 1) 13 (.ints .i64 (tabL M r cs (t * 13) 0 0))), (2, .blk 75 [i64 (M : Int), i64 r]), (0, .ro lv.length 1 (.ints .i64 lv)), (1, .ro tg.length 1 (.ints .i64 tg))], 4⟩) (fun t => t ≤ lv.length + 1) (fun t => t) (lv.length + 1) ⟨?_, sub_intro hm [(0, some 0), (1, some 1), (2, some 2), (3, some 3)] rfl ?_⟩ ?_
          · exact Nat.le_refl _
          · have e := zero13Z (lv.length + 1)
            have e3 := tab_zero M r cs
            rw [hcs] at e3
            rw [e3] at e
            simp only [AllL, All, cd_p, cp_p, cv_p, true_and, and_true]
            exact ⟨e, by omega⟩
          · rintro t ht
            rcases t with _ | i
            · repeat first | refine lwp_seq fun K hK => ?_ | (with_reducible refine gA ?_; apply_assumption -exfalso -symm) | refine Stp.h ?_ | refine gF rfl ?_ | refine gG rfl ?_ | refine gM hC rfl sd ?_
              refine lwp_condS hC rfl sd ?_ ?_ <;> intro hb
              · omega
              · clear hb
                have hz0 : (0 + 1) * 13 * 0 = 0 := rfl
                have htl := tab_len M r cs (0 * 13) 0 0
                have hw0 := HC.out
                rw [← leastN_congr (f := natF fun q => (tabL M r cs (0 * 13) 0 0).getD (0 * 13 + q) 0) (fun m hm13 => by show (tabL M r cs (0 * 13) 0 0).getD (0 * 13 + ((m : Int)).toNat) 0 = _; rw [Int.toNat_natCast, tab_row M r cs hm13 (by omega) (by omega)])] at hw0
                have hw1 : leastS (fun q => (tabL M r cs (0 * 13) 0 0).getD (0 * 13 + q) 0) 0 r 13 = p.1 := hw0
                have HW := Lib.hid hw1
                clear hw0 hw1
                repeat first | refine lwp_seq fun K hK => ?_ | (with_reducible refine gA ?_; apply_assumption -exfalso -symm) | refine Stp.h ?_ | refine gF rfl ?_ | refine gG rfl ?_ | refine gM hC rfl sd ?_
                (refine lwp_drawn hC (by rw [hP]; exact mixed) ⟨[], [], [(6, Least_i (fun q => (tabL M r cs (0 * 13) 0 0).getD (0 * 13 + q) 0) 0 r [])]⟩ (told1 _ (by rw [hP]; exact (calls_cons (Least_s _ _ _ _ (by decide)) calls_nil))) [0, 1, 3, 0, 0, 16, 63, 127] 6 rfl ?_ ?_; rotate_left 1)
                · rw [HW.out]
                  repeat first | refine lwp_seq fun K hK => ?_ | (with_reducible refine gA ?_; apply_assumption -exfalso -symm) | refine Stp.h ?_ | refine gF rfl ?_ | refine gG rfl ?_ | refine gM hC rfl sd ?_
                  refine lwp_loop (fun i : Nat => ⟨[(96, i64 i), (95, i64 lv.length), (14, i64 (befD p.2 i)), (13, .sl 4 (p.2.take i).length), (15, i64 p.1), (10, .sl 3 (lv.length + 1)), (5, .ptr 2 0 0 0), (0, .sl 0 lv.length), (1, .sl 1 tg.length)], [(4, .row 3 (p.2.take i).length 1 (.ints .i64 (p.2.take i))), (3, .row 197 (lv.length + 1) 13 (.ints .i64 (tabL M r cs (0 * 13) 0 0))), (2, .blk 75 [i64 (M : Int), i64 r]), (0, .ro lv.length 1 (.ints .i64 lv)), (1, .ro tg.length 1 (.ints .i64 tg))], 5⟩) (fun i => i ≤ lv.length) (fun i => lv.length - i) 0 ⟨?_, sub_intro hm [(0, some 0), (1, some 1), (2, some 2), (3, some 3), (4, none)] rfl ?_⟩ ?_
                  · exact Nat.zero_le _
                  · have e : befD p.2 0 = 0 := rfl
                    exact sd
                  · rintro i hi
                    have hii : ((i : Int)).toNat = i := Int.toNat_natCast i
                    have hbi := HB.out i
                    have htk : (p.2.take i).length = i := by rw [List.length_take]; omega
                    repeat first | refine lwp_seq fun K hK => ?_ | (with_reducible refine gA ?_; apply_assumption -exfalso -symm) | refine Stp.h ?_ | refine gF rfl ?_ | refine gG rfl ?_ | refine gM hC rfl sd ?_
                    refine lwp_condS hC rfl sd ?_ ?_ <;> intro hb
                    · have hi2 : i < lv.length := by omega
                      obtain ⟨c, n, hk⟩ := HP.out i hi2
                      clear hb
                      have hn12 := hk.n12
                      have hw0 := hk.want
                      rw [← leastN_congr (f := natF fun q => (tabL M r cs (0 * 13) 0 0).getD (i * 13 + q) 0) (fun m hm13 => by show (tabL M r cs (0 * 13) 0 0).getD (i * 13 + ((m : Int)).toNat) 0 = _; rw [Int.toNat_natCast, tab_row M r cs hm13 (by omega) (by omega)])] at hw0
                      have hw1 : leastS (fun q => (tabL M r cs (0 * 13) 0 0).getD (i * 13 + q) 0) (befD p.2 i) r 13 = c := hw0
                      have HW1 := Lib.hid hw1
                      have HK := Lib.hid hk
                      clear hw0 hw1 hk
                      repeat first | refine lwp_seq fun K hK => ?_ | (with_reducible refine gA ?_; apply_assumption -exfalso -symm) | refine Stp.h ?_ | refine gF rfl ?_ | refine gG rfl ?_ | refine gM hC rfl sd ?_
                      (refine lwp_drawn hC (by rw [hP]; exact mixed) ⟨[], [], [(7, Least_i (fun q => (tabL M r cs (0 * 13) 0 0).getD (i * 13 + q) 0) (befD p.2 i) r [])]⟩ (told1 _ (by rw [hP]; exact (calls_cons (Least_s _ _ _ _ (by omega)) calls_nil))) [0, 0, 3, 7, 0, 0, 32, 127, 255] 7 rfl ?_ ?_; rotate_left 1)
                      · rw [HW1.out]
                        repeat first | refine lwp_seq fun K hK => ?_ | (with_reducible refine gA ?_; apply_assumption -exfalso -symm) | refine Stp.h ?_ | refine gF rfl ?_ | refine gG rfl ?_ | refine gM hC rfl sd ?_
                        refine lwp_loop (fun k : Nat => ⟨[(107, i64 k), (16, i64 i), (17, i64 c), (96, i64 i), (95, i64 lv.length), (14, i64 (befD p.2 i)), (13, .sl 4 (p.2.take i).length), (15, i64 p.1), (10, .sl 3 (lv.length + 1)), (5, .ptr 2 0 0 0), (0, .sl 0 lv.length), (1, .sl 1 tg.length)], [(4, .row 3 (p.2.take i).length 1 (.ints .i64 (p.2.take i))), (3, .row 197 (lv.length + 1) 13 (.ints .i64 (tabL M r cs (0 * 13) 0 0))), (2, .blk 75 [i64 (M : Int), i64 r]), (0, .ro lv.length 1 (.ints .i64 lv)), (1, .ro tg.length 1 (.ints .i64 tg))], 5⟩) (fun k => k ≤ n) (fun k => n - k) 0 ⟨?_, sub_intro hm [(0, some 0), (1, some 1), (2, some 2), (3, some 3), (4, some 4)] rfl ?_⟩ ?_
                        · exact Nat.zero_le _
                        · exact sd
                        · rintro k hk
                          have hkk : ((k : Int)).toNat = k := Int.toNat_natCast k
                          repeat first | refine lwp_seq fun K hK => ?_ | (with_reducible refine gA ?_; apply_assumption -exfalso -symm) | refine Stp.h ?_ | refine gF rfl ?_ | refine gG rfl ?_ | refine gM hC rfl sd ?_
                          refine lwp_condS hC rfl sd ?_ ?_ <;> intro hb
                          · clear hb
                            have hrow := tab_row M r cs (r := i) (m := k) (t := 0 * 13) (a := 0) (b := 0) (by omega) (by omega) (by omega)
                            have hnm := near_max r k (befD p.2 i)
                            by_cases hkn : k = n
                            · subst hkn
                              have hne := hnm.2 HK.out.near
                              have hhit := HK.out.hit
                              rw [← hrow] at hhit
                              have hnx := HK.out.next
                              have hsn : p.2.take (i + 1) = p.2.take i ++ [(k : Int)] := by rw [take_snoc p.2 0 i (by omega), HK.out.is]
                              have HNX := Lib.hid hnx
                              have HSN := Lib.hid hsn
                              clear hnx hsn hnm hrow
                              repeat first | refine lwp_seq fun K hK => ?_ | (with_reducible refine gA ?_; apply_assumption -exfalso -symm) | refine Stp.h ?_ | refine gF rfl ?_ | refine gG rfl ?_ | refine gM hC rfl ⟨⟩ ?_
                              (refine lwp_region hC ⟨[(10, { b := some true }), (18, { b := some true })], [], []⟩ (told0 _ _) rfl ?_ ?_; rotate_left 1)
                              · repeat first | refine lwp_seq fun K hK => ?_ | (with_reducible refine gA ?_; apply_assumption -exfalso -symm) | refine Stp.h ?_ | refine gF rfl ?_ | refine gG rfl ?_ | refine gM hC rfl sd ?_
                                refine lwp_condS hC rfl sd ?_ ?_ <;> intro hb
                                · clear hb
                                  repeat first | refine lwp_seq fun K hK => ?_ | (with_reducible refine gA ?_; apply_assumption -exfalso -symm) | refine Stp.h ?_ | refine gF rfl ?_ | refine gG rfl ?_ | refine gM hC rfl sd ?_
                                  refine gA ⟨i + 1, ?_, ?_, sub_intro hm [(0, some 0), (1, some 1), (2, some 2), (3, some 3), (4, some 6)] rfl ?_⟩
                                  · omega
                                  · omega
                                  · rw [HNX.out, HSN.out]
                                    exact sd
                                · simp [hii, hkk] at hb hhit
                                  exact absurd hhit hb
                              · rw [hii, hkk, show i * 13 + (0 + k * 1) = i * 13 + k by omega]
                                exact sd
                            · by_cases hne : nearB r k (befD p.2 i) = true
                              · have hne' := hnm.2 hne
                                have hno := HK.out.no k (by omega) hne
                                rw [← hrow] at hno
                                clear hnm hrow hne
                                repeat first | refine lwp_seq fun K hK => ?_ | (with_reducible refine gA ?_; apply_assumption -exfalso -symm) | refine Stp.h ?_ | refine gF rfl ?_ | refine gG rfl ?_ | refine gM hC rfl ⟨⟩ ?_
                                (refine lwp_region hC ⟨[(10, { b := some true }), (18, { b := some false })], [], []⟩ (told0 _ _) rfl ?_ ?_; rotate_left 1)
                                · repeat first | refine lwp_seq fun K hK => ?_ | (with_reducible refine gA ?_; apply_assumption -exfalso -symm) | refine Stp.h ?_ | refine gF rfl ?_ | refine gG rfl ?_ | refine gM hC rfl sd ?_
                                  refine lwp_condS hC rfl sd ?_ ?_ <;> intro hb
                                  · simp [hii, hkk] at hb hno
                                    exact absurd hb hno
                                  · clear hb
                                    repeat first | refine lwp_seq fun K hK => ?_ | (with_reducible refine gA ?_; apply_assumption -exfalso -symm) | refine Stp.h ?_ | refine gF rfl ?_ | refine gG rfl ?_ | refine gM hC rfl sd ?_
                                    refine gA ⟨k + 1, ?_, ?_, sub_intro hm [(0, some 0), (1, some 1), (2, some 2), (3, some 3), (4, some 4)] rfl ?_⟩
                                    · omega
                                    · omega
                                    · exact sd
                                · rw [hii, hkk, show i * 13 + (0 + k * 1) = i * 13 + k by omega]
                                  exact sd
                              · have hne' := fun h => hne (hnm.1 h)
                                have hne2 := decide_eq_false hne'
                                clear hnm hrow hne hne'
                                repeat first | refine lwp_seq fun K hK => ?_ | (with_reducible refine gA ?_; apply_assumption -exfalso -symm) | refine Stp.h ?_ | refine gF rfl ?_ | refine gG rfl ?_ | refine gM hC rfl ⟨⟩ ?_
                                (refine lwp_region hC ⟨[(10, { b := some false }), (11, { g := some false }), (12, { g := some false }), (13, { g := some false }), (14, { g := some false }), (15, { g := some false }), (16, { g := some false }), (17, { g := some false }), (18, { g := some false })], [], []⟩ (told0 _ _) rfl ?_ ?_; rotate_left 1)
                                · repeat first | refine lwp_seq fun K hK => ?_ | (with_reducible refine gA ?_; apply_assumption -exfalso -symm) | refine Stp.h ?_ | refine gF rfl ?_ | refine gG rfl ?_ | refine gM hC rfl sd ?_
                                  refine lwp_condS hC rfl sd ?_ ?_ <;> intro hb
                                  · exact absurd hb (by decide)
                                  · clear hb
                                    repeat first | refine lwp_seq fun K hK => ?_ | (with_reducible refine gA ?_; apply_assumption -exfalso -symm) | refine Stp.h ?_ | refine gF rfl ?_ | refine gG rfl ?_ | refine gM hC rfl sd ?_
                                    refine gA ⟨k + 1, ?_, ?_, sub_intro hm [(0, some 0), (1, some 1), (2, some 2), (3, some 3), (4, some 4)] rfl ?_⟩
                                    · omega
                                    · omega
                                    · exact sd
                                · exact sd
                          · omega
                      · rw [hii]
                        exact sd
                    · obtain rfl : i = lv.length := by omega
                      clear hb
                      have hall : p.2.take lv.length = p.2 := List.take_of_length_le (by omega)
                      rw [hall]
                      repeat first | refine lwp_seq fun K hK => ?_ | (with_reducible refine gA ?_; apply_assumption -exfalso -symm) | refine Stp.h ?_ | refine gF rfl ?_ | refine gG rfl ?_ | refine gM hC rfl sd ?_
                      (refine end_intro (by first | exact .inr rfl | exact .inl rfl) [(2, some 4)] rfl ?_)
                      exact sd
                · exact sd
            · rw [show (((i + 1 : Nat) : Int) - 1) = (i : Int) by omega]
              have hii : ((i : Int)).toNat = i := Int.toNat_natCast i
              repeat first | refine lwp_seq fun K hK => ?_ | (with_reducible refine gA ?_; apply_assumption -exfalso -symm) | refine Stp.h ?_ | refine gF rfl ?_ | refine gG rfl ?_ | refine gM hC rfl sd ?_
              refine lwp_condS hC rfl sd ?_ ?_ <;> intro hb
              · clear hb
                rw [tab_begin]
                repeat first | refine lwp_seq fun K hK => ?_ | (with_reducible refine gA ?_; apply_assumption -exfalso -symm) | refine Stp.h ?_ | refine gF rfl ?_ | refine gG rfl ?_ | refine gM hC rfl sd ?_
                refine lwp_loop (fun k : Nat => ⟨[(36, i64 k), (11, i64 i), (10, .sl 3 (lv.length + 1)), (5, .ptr 2 0 0 0), (0, .sl 0 lv.length), (1, .sl 1 tg.length)], [(3, .row 197 (lv.length + 1) 13 (.ints .i64 (tabL M r cs ((i + 1) * 13) (i * 13) (i * 13 + k)))), (2, .blk 75 [i64 (M : Int), i64 r]), (0, .ro lv.length 1 (.ints .i64 lv)), (1, .ro tg.length 1 (.ints .i64 tg))], 4⟩) (fun k => k ≤ 13) (fun k => 13 - k) 0 ⟨?_, sub_intro hm [(0, some 0), (1, some 1), (2, some 2), (3, some 3)] rfl ?_⟩ ?_
                · exact Nat.zero_le _
                · exact sd
                · rintro k hk
                  have hkk : ((k : Int)).toNat = k := Int.toNat_natCast k
                  have htl := tab_len M r cs ((i + 1) * 13) (i * 13) (i * 13 + k)
                  have hset : ∀ v, v = restF M r (cs.drop i) (k : Int) → k < 13 → (tabL M r cs ((i + 1) * 13) (i * 13) (i * 13 + k)).set (i * 13 + (0 + k * 1)) v = tabL M r cs ((i + 1) * 13) (i * 13) (i * 13 + (k + 1)) := fun v hv hk13 => by
                    rw [show i * 13 + (0 + k * 1) = i * 13 + k by omega]
                    exact tab_set M r cs (by omega) hk13 hv
                  have HS := Lib.hid hset
                  clear hset
                  repeat first | refine lwp_seq fun K hK => ?_ | (with_reducible refine gA ?_; apply_assumption -exfalso -symm) | refine Stp.h ?_ | refine gF rfl ?_ | refine gG rfl ?_ | refine gM hC rfl sd ?_
                  refine lwp_condS hC rfl sd ?_ ?_ <;> intro hb
                  · have hk2 : k < 13 := by omega
                    clear hb
                    repeat first | refine lwp_seq fun K hK => ?_ | (with_reducible refine gA ?_; apply_assumption -exfalso -symm) | refine Stp.h ?_ | refine gF rfl ?_ | refine gG rfl ?_ | refine gM hC rfl sd ?_
                    refine lwp_condS hC rfl sd ?_ ?_ <;> intro hb
                    · have hin : i = lv.length := by omega
                      have hE := endIs (most := M) (ramp := r) (k := k) (show i = cs.length by omega)
                      have HE := Lib.hid hE
                      clear hb hE
                      repeat first | refine lwp_seq fun K hK => ?_ | (with_reducible refine gA ?_; apply_assumption -exfalso -symm) | refine Stp.h ?_ | refine gF rfl ?_ | refine gG rfl ?_ | refine gM hC rfl sd ?_
                      refine lwp_condS hC rfl sd ?_ ?_ <;> intro hb
                      · have es := HS.out 1099511627776 (by rw [HE.out, if_pos hb]) hk2
                        repeat first | refine lwp_seq fun K hK => ?_ | (with_reducible refine gA ?_; apply_assumption -exfalso -symm) | refine Stp.h ?_ | refine gF rfl ?_ | refine gG rfl ?_
                        (refine lwp_region hC ⟨[], [], []⟩ (told0 _ _) rfl ?_ ?_; rotate_left 1)
                        · rw [hii, hkk, es]
                          repeat first | refine lwp_seq fun K hK => ?_ | (with_reducible refine gA ?_; apply_assumption -exfalso -symm) | refine Stp.h ?_ | refine gF rfl ?_ | refine gG rfl ?_ | refine gM hC rfl sd ?_
                          refine gA ⟨k + 1, ?_, ?_, sub_intro hm [(0, some 0), (1, some 1), (2, some 2), (3, some 3)] rfl ?_⟩
                          · omega
                          · omega
                          · exact sd
                        · rw [hii, hkk]
                          exact sd
                      · have es := tab_same M r cs (i := i) (n := k) (by omega) hk2 (by rw [HE.out, if_neg hb])
                        rw [es]
                        repeat first | refine lwp_seq fun K hK => ?_ | (with_reducible refine gA ?_; apply_assumption -exfalso -symm) | refine Stp.h ?_ | refine gF rfl ?_ | refine gG rfl ?_ | refine gM hC rfl sd ?_
                        refine gA ⟨k + 1, ?_, ?_, sub_intro hm [(0, some 0), (1, some 1), (2, some 2), (3, some 3)] rfl ?_⟩
                        · omega
                        · omega
                        · exact sd
                    · have hin : i < lv.length := by omega
                      clear hb
                      repeat first | refine lwp_seq fun K hK => ?_ | (with_reducible refine gA ?_; apply_assumption -exfalso -symm) | refine Stp.h ?_ | refine gF rfl ?_ | refine gG rfl ?_ | refine gM hC rfl sd ?_
                      refine lwp_condS hC rfl sd ?_ ?_ <;> intro hb
                      · have es := HS.out 1099511627776 (neverIs (by omega) hb) hk2
                        repeat first | refine lwp_seq fun K hK => ?_ | (with_reducible refine gA ?_; apply_assumption -exfalso -symm) | refine Stp.h ?_ | refine gF rfl ?_ | refine gG rfl ?_
                        (refine lwp_region hC ⟨[], [], []⟩ (told0 _ _) rfl ?_ ?_; rotate_left 1)
                        · rw [hii, hkk, es]
                          repeat first | refine lwp_seq fun K hK => ?_ | (with_reducible refine gA ?_; apply_assumption -exfalso -symm) | refine Stp.h ?_ | refine gF rfl ?_ | refine gG rfl ?_ | refine gM hC rfl sd ?_
                          refine gA ⟨k + 1, ?_, ?_, sub_intro hm [(0, some 0), (1, some 1), (2, some 2), (3, some 3)] rfl ?_⟩
                          · omega
                          · omega
                          · exact sd
                        · rw [hii, hkk]
                          exact sd
                      · have hwr : leastN (restF M r (cs.drop (i + 1))) (fun m => nearB r m k) 13 = leastS (fun q => (tabL M r cs ((i + 1) * 13) (i * 13) (i * 13 + k)).getD ((i + 1) * 13 + q) 0) k r 13 := by
                          refine leastN_congr fun m hm13 => ?_
                          show _ = (tabL M r cs ((i + 1) * 13) (i * 13) (i * 13 + k)).getD ((i + 1) * 13 + ((m : Int)).toNat) 0
                          rw [Int.toNat_natCast, tab_row M r cs hm13 (by omega) (by omega)]
                        have hir := restIs (most := M) (ramp := r) (lv := lv) (tg := tg) (i := i) (k := k) hin (by omega) (by omega)
                        rw [HCS.out, hwr] at hir
                        have es := HS.out _ hir hk2
                        have hrr := HRS.out i k
                        rw [← hir] at hrr
                        have hi1 : ((i : Int) + 1).toNat = i + 1 := by omega
                        have HES := Lib.hid es
                        clear es hir hwr hb
                        repeat first | refine lwp_seq fun K hK => ?_ | (with_reducible refine gA ?_; apply_assumption -exfalso -symm) | refine Stp.h ?_ | refine gF rfl ?_ | refine gG rfl ?_
                        (refine lwp_drawn2 hC (by rw [hP]; exact mixed) ⟨[], [], [(12, Miss_i (lv.getD i 0) (tg.getD i 0) k), (21, Least_i (fun q => (tabL M r cs ((i + 1) * 13) (i * 13) (i * 13 + k)).getD ((i + 1) * 13 + q) 0) k r [])]⟩ (told1 _ (by rw [hP]; exact (calls_cons (Miss_s _ _ _ (HL.out.2 i) (HT.out.2 i) (by omega)) (calls_cons (Least_s _ _ _ _ (by omega)) calls_nil)))) [0, 0, 0, 0, 0, 24, 56, 0, 0, 384, 896, 0, 4088, 0, 0, 16384, 57344, 122880, 0, 0, 524288, 2097144, 4194296, 3, 16777215, 33554431] 25 0 rfl ?_ ?_; rotate_left 1)
                        · rw [hii, hkk, HES.out]
                          repeat first | refine lwp_seq fun K hK => ?_ | (with_reducible refine gA ?_; apply_assumption -exfalso -symm) | refine Stp.h ?_ | refine gF rfl ?_ | refine gG rfl ?_ | refine gM hC rfl sd ?_
                          refine gA ⟨k + 1, ?_, ?_, sub_intro hm [(0, some 0), (1, some 1), (2, some 2), (3, some 3)] rfl ?_⟩
                          · omega
                          · omega
                          · exact sd
                        · rw [hii, hkk, hi1]
                          exact sd
                  · obtain rfl : k = 13 := by omega
                    clear hb
                    rw [tab_end]
                    repeat first | refine lwp_seq fun K hK => ?_ | (with_reducible refine gA ?_; apply_assumption -exfalso -symm) | refine Stp.h ?_ | refine gF rfl ?_ | refine gG rfl ?_ | refine gM hC rfl sd ?_
                    refine gA ⟨i, ?_, ?_, sub_intro hm [(0, some 0), (1, some 1), (2, some 2), (3, some 3)] rfl ?_⟩
                    · omega
                    · omega
                    · exact sd
              · omega
        · exact sd
    · exact sd
  · have e1 : dsL lv tg m r = [] := if_neg hz
    have e2 : dsC lv tg m r = 0 := if_neg hz
    unfold Dsg_i
    rw [e1, e2]
    unfold twoIn Inst.ok; dsimp only; refine spec_of_body (tys := tys) 2 Tryz.func40 (by kernel_rfl) rfl tys_ok rfl (Nat.le_of_ble_eq_true rfl) (fun _ _ h => (by cases h)) fun F hP hm hC hrd => ?_; conv => whnf
    repeat first | refine lwp_seq fun K hK => ?_ | (with_reducible refine gA ?_; apply_assumption -exfalso -symm) | refine Stp.h ?_ | refine gF rfl ?_ | refine gG rfl ?_ | refine gM hC rfl sd ?_
    (refine lwp_region hC ⟨[], [], [(3, Des_i lv tg m r [(0, some 0), (1, some 1)])]⟩ (told1 _ (by rw [hP]; exact (calls_cons (Des_s _ _ _ _ _ h1 h2) calls_nil))) rfl ?_ ?_; rotate_left 1)
    · repeat first | refine lwp_seq fun K hK => ?_ | (with_reducible refine gA ?_; apply_assumption -exfalso -symm) | refine Stp.h ?_ | refine gF rfl ?_ | refine gG rfl ?_ | refine gM hC rfl sd ?_
      refine lwp_condS hC rfl sd ?_ ?_ <;> intro hb
      · repeat first | refine lwp_seq fun K hK => ?_ | (with_reducible refine gA ?_; apply_assumption -exfalso -symm) | refine Stp.h ?_ | refine gF rfl ?_ | refine gG rfl ?_ | refine gM hC rfl sd ?_
        (refine end_intro (by first | exact .inr rfl | exact .inl rfl) [(2, none)] rfl ?_)
        exact sd
      · exact absurd hb hz
    · exact sd

end Go.Proofs.YtccddhoeampdjaaGreatDoor
