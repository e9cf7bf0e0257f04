/- Chapter 9: offices: what they are, and the program's check. -/
import Derived.Test.YtccddhoeampdjaaGreatDoorPa
import Derived.Test.YtccddhoeampdjaaGreatDoorKa
set_option linter.unusedVariables false
set_option linter.unusedSimpArgs false
namespace Go.Proofs.YtccddhoeampdjaaGreatDoor
open Go.RowKit Go.Sym

structure Sec where
  name : ByteArray
  dl : Int
  wk : Int
  bl : Int
  vl : Int
structure Shf where
  day : Int
  hr : Int
  bl : Int
  rt : Int
def secV (s : Sec) : List Value := [.string s.name, .int .i64 s.dl, .int .i64 s.wk, .int .i64 s.bl, .int .i64 s.vl]
def shfV (s : Shf) : List Value := [.int .i64 s.day, .int .i64 s.hr, .int .i64 s.bl, .int .i64 s.rt]
def secD : Sec := ⟨⟨#[]⟩, 0, 0, 0, 0⟩
def shfD : Shf := ⟨0, 0, 0, 0⟩
def secC (l : List Sec) : Cont := genL secV secD 5 l
def shfC (l : List Shf) : Cont := genL shfV shfD 4 l
theorem secC_cells (l : List Sec) : (secC l).cells = (l.flatMap secV).map AV.lit := genL_cells (f := secV) (fun _ => rfl) l
theorem shfC_cells (l : List Shf) : (shfC l).cells = (l.flatMap shfV).map AV.lit := genL_cells (f := shfV) (fun _ => rfl) l
theorem secC_snoc (l : List Sec) (s : Sec) : (secC (l ++ [s])).cells = (secC l).cells ++ [.lit (.string s.name), i64 s.dl, i64 s.wk, i64 s.bl, i64 s.vl] := genL_snoc (f := secV) (fun _ => rfl) l s
theorem shfC_snoc (l : List Shf) (s : Shf) : (shfC (l ++ [s])).cells = (shfC l).cells ++ [i64 s.day, i64 s.hr, i64 s.bl, i64 s.rt] := genL_snoc (f := shfV) (fun _ => rfl) l s
def offIn (S : List Sec) (T : List Shf) : List (Nat × Chunk) := [(0, .ro S.length 5 (secC S)), (1, .ro T.length 4 (shfC T))]
def ofA (S : List Sec) (T : List Shf) : AV := .agg [.sl 0 S.length, .sl 1 T.length]

def secE (s : Sec) : Int := firstS [withinS s.dl 0 100000, withinS s.wk 1 1000, withinS s.bl 0 10000, withinS s.vl 0 1000000]
def shfE (s : Shf) : Int := firstS [withinS s.day 0 100000, withinS s.hr 0 1000, withinS s.bl 0 10000, withinS s.rt 0 1000]
def secAt (S : List Sec) (k : Nat) : Int := firstS [whenS (!nameOk (S.getD k secD).name) 8, whenS (memS ((S.take k).map (·.name)) (S.getD k secD).name) 9, secE (S.getD k secD)]
def lastDay (T : List Shf) (k : Nat) : Bool := bif decide ((k : Int) > 0) then decide ((T.getD k shfD).day < (T.getD (k - 1) shfD).day) else false
def shfAt (T : List Shf) (k : Nat) : Int := firstS [shfE (T.getD k shfD), whenS (lastDay T k) 11]
def secsS (S : List Sec) : Int := firstS ((List.range S.length).map (secAt S))
def shfsS (T : List Shf) : Int := firstS ((List.range T.length).map (shfAt T))
def manyO (S : List Sec) (T : List Shf) : Int := firstS [whenS (decide ((S.length : Int) > 7)) 5, whenS (decide ((T.length : Int) > 5)) 5]
/-- An office's error. -/
def offE (S : List Sec) (T : List Shf) : Int := firstS [manyO S T, secsS S, shfsS T]
theorem firstR_drop (f : Nat → Int) (n k : Nat) (h : k < n) : firstS (((List.range n).map f).drop k) = if f k = 0 then firstS (((List.range n).map f).drop (k + 1)) else f k := by
  rw [List.drop_eq_getElem_cons (by simpa using h)]
  simp [firstS]
theorem firstR_all (f : Nat → Int) (n : Nat) : firstS (((List.range n).map f).drop n) = 0 := by
  rw [List.drop_of_length_le (by simp)]; rfl
theorem firstR_zero {f : Nat → Int} {n : Nat} (h : firstS ((List.range n).map f) = 0) : ∀ k, k < n → f k = 0 := by
  induction n with
  | zero => intro k hk; omega
  | succ n ih =>
    rw [List.range_succ, List.map_append] at h
    have key : ∀ (l : List Int) (x : Int), firstS (l ++ [x]) = 0 → firstS l = 0 ∧ x = 0 := by
      intro l x
      induction l with
      | nil => intro h; exact ⟨rfl, ((firstS_cons _ _).1 h).1⟩
      | cons a l ihl =>
        intro h
        have h1 := (firstS_cons _ _).1 h
        have h2 := ihl h1.2
        exact ⟨(firstS_cons _ _).2 ⟨h1.1, h2.1⟩, h2.2⟩
    have h2 := key _ _ h
    intro k hk
    rcases Nat.lt_or_ge k n with hlt | hge
    · exact ih h2.1 k hlt
    · obtain rfl : k = n := by omega
      exact h2.2

def SecC_i (s : Sec) : Inst := { f := 97, hin := [], args := [.agg [.lit (.string s.name), i64 s.dl, i64 s.wk, i64 s.bl, i64 s.vl]], hout := [], ret := i64 (secE s), σ := [] }
theorem SecC_s (s : Sec) : (SecC_i s).ok Tryz.prog := by
  unfold SecC_i Inst.ok; dsimp only; refine spec_of_body (tys := tys) 0 Tryz.func97 (by kernel_rfl) rfl tys_ok rfl (Nat.le_of_ble_eq_true rfl) (fun _ _ h => (by cases h)) fun F hP hm hC hrd => ?_; conv => whnf
  repeat first | refine lwp_seq fun K hK => ?_ | (with_reducible refine gA ?_; apply_assumption -exfalso -symm) | refine Stp.h ?_ | refine gF rfl ?_ | refine gG rfl ?_ | refine gM hC rfl sd ?_
  (refine lwp_drawn hC (by rw [hP]; exact mixed) ⟨[], [], [(2, PWithin_i s.dl 0 100000), (5, PWithin_i s.wk 1 1000), (8, PWithin_i s.bl 0 10000), (11, PWithin_i s.vl 0 1000000), (13, PFirst_i [withinS s.dl 0 100000, withinS s.wk 1 1000, withinS s.bl 0 10000, withinS s.vl 0 1000000] [(0, some 1)])]⟩ (told1 _ (by rw [hP]; exact (calls_cons (PWithin_s _ _ _) (calls_cons (PWithin_s _ _ _) (calls_cons (PWithin_s _ _ _) (calls_cons (PWithin_s _ _ _) (calls_cons (PFirst_s _ _ (by simp)) calls_nil))))))) [0, 1, 3, 0, 8, 31, 0, 64, 255, 0, 512, 2047, 4095, 8191, 16383] 11 rfl ?_ ?_; rotate_left 1)
  · repeat first | refine lwp_seq fun K hK => ?_ | (with_reducible refine gA ?_; apply_assumption -exfalso -symm) | refine Stp.h ?_ | refine gF rfl ?_ | refine gG rfl ?_ | refine gM hC rfl sd ?_
    (refine end_intro (by first | exact .inr rfl | exact .inl rfl) [] rfl ?_)
    exact ⟨rfl, trivial⟩
  · exact sd
def ShfC_i (s : Shf) : Inst := { f := 98, hin := [], args := [.agg [i64 s.day, i64 s.hr, i64 s.bl, i64 s.rt]], hout := [], ret := i64 (shfE s), σ := [] }
theorem ShfC_s (s : Shf) : (ShfC_i s).ok Tryz.prog := by
  unfold ShfC_i Inst.ok; dsimp only; refine spec_of_body (tys := tys) 0 Tryz.func98 (by kernel_rfl) rfl tys_ok rfl (Nat.le_of_ble_eq_true rfl) (fun _ _ h => (by cases h)) fun F hP hm hC hrd => ?_; conv => whnf
  repeat first | refine lwp_seq fun K hK => ?_ | (with_reducible refine gA ?_; apply_assumption -exfalso -symm) | refine Stp.h ?_ | refine gF rfl ?_ | refine gG rfl ?_ | refine gM hC rfl sd ?_
  (refine lwp_drawn hC (by rw [hP]; exact mixed) ⟨[], [], [(2, PWithin_i s.day 0 100000), (5, PWithin_i s.hr 0 1000), (8, PWithin_i s.bl 0 10000), (11, PWithin_i s.rt 0 1000), (13, PFirst_i [withinS s.day 0 100000, withinS s.hr 0 1000, withinS s.bl 0 10000, withinS s.rt 0 1000] [(0, some 1)])]⟩ (told1 _ (by rw [hP]; exact (calls_cons (PWithin_s _ _ _) (calls_cons (PWithin_s _ _ _) (calls_cons (PWithin_s _ _ _) (calls_cons (PWithin_s _ _ _) (calls_cons (PFirst_s _ _ (by simp)) calls_nil))))))) [0, 1, 3, 0, 8, 31, 0, 64, 255, 0, 512, 2047, 4095, 8191, 16383] 11 rfl ?_ ?_; rotate_left 1)
  · repeat first | refine lwp_seq fun K hK => ?_ | (with_reducible refine gA ?_; apply_assumption -exfalso -symm) | refine Stp.h ?_ | refine gF rfl ?_ | refine gG rfl ?_ | refine gM hC rfl sd ?_
    (refine end_intro (by first | exact .inr rfl | exact .inl rfl) [] rfl ?_)
    exact ⟨rfl, trivial⟩
  · exact sd
def Off_i (S : List Sec) (T : List Shf) (σ : Ren) : Inst := { f := 25, hin := offIn S T, args := [ofA S T], hout := [], ret := i64 (offE S T), σ := σ }
set_option maxRecDepth 20000 in
set_option maxHeartbeats 4000000 in
theorem Off_s (S : List Sec) (T : List Shf) (σ : Ren) (hS : S.length ≤ 1000000) (hT : T.length ≤ 1000000) : (Off_i S T σ).ok Tryz.prog := by
  unfold Off_i Inst.ok; dsimp only; refine spec_of_body (tys := tys) 2 Tryz.func25 (by kernel_rfl) rfl tys_ok rfl (Nat.le_of_ble_eq_true rfl) (fun _ _ h => (by cases h)) fun F hP hm hC hrd => ?_; conv => whnf
  repeat first | refine lwp_seq fun K hK => ?_ | (with_reducible refine gA ?_; apply_assumption -exfalso -symm) | refine Stp.h ?_ | refine gF rfl ?_ | refine gG rfl ?_ | refine gM hC rfl sd ?_
  (refine lwp_drawn hC (by rw [hP]; exact mixed) ⟨[], [], [(4, PWhen_i (decide ((S.length : Int) > 7)) 5), (9, PWhen_i (decide ((T.length : Int) > 5)) 5), (11, PFirst_i [whenS (decide ((S.length : Int) > 7)) 5, whenS (decide ((T.length : Int) > 5)) 5] [(0, some 3)])]⟩ (told1 _ (by rw [hP]; exact (calls_cons (PWhen_s _ _) (calls_cons (PWhen_s _ _) (calls_cons (PFirst_s _ _ (by simp)) calls_nil))))) [0, 1, 3, 7, 15, 0, 32, 96, 224, 511, 1023, 2047, 4095] 9 rfl ?_ ?_; rotate_left 1)
  · repeat first | refine lwp_seq fun K hK => ?_ | (with_reducible refine gA ?_; apply_assumption -exfalso -symm) | refine Stp.h ?_ | refine gF rfl ?_ | refine gG rfl ?_ | refine gM hC rfl sd ?_
    refine lwp_condS hC rfl sd ?_ ?_ <;> intro hb
    · have e : offE S T = manyO S T := by unfold offE; simp only [firstS, if_neg (show ¬ manyO S T = 0 from hb)]
      repeat first | refine lwp_seq fun K hK => ?_ | (with_reducible refine gA ?_; apply_assumption -exfalso -symm) | refine Stp.h ?_ | refine gF rfl ?_ | refine gG rfl ?_ | refine gM hC rfl sd ?_
      (refine end_intro (by first | exact .inr rfl | exact .inl rfl) [] rfl ?_)
      rw [e]
      exact ⟨rfl, trivial⟩
    · have e : offE S T = firstS [secsS S, shfsS T] := by
        unfold offE; simp only [firstS, if_pos (show manyO S T = 0 from hb)]
      have E := Lib.hid e
      clear hb e
      repeat first | refine lwp_seq fun K hK => ?_ | (with_reducible refine gA ?_; apply_assumption -exfalso -symm) | refine Stp.h ?_ | refine gF rfl ?_ | refine gG rfl ?_
      (refine lwp_region hC ⟨[(0, { b := some true })], [], []⟩ (told0 _ _) rfl ?_ ?_; rotate_left 1)
      · repeat first | refine lwp_seq fun K hK => ?_ | (with_reducible refine gA ?_; apply_assumption -exfalso -symm) | refine Stp.h ?_ | refine gF rfl ?_ | refine gG rfl ?_ | refine gM hC rfl sd ?_
        refine lwp_loop (fun k : Nat => ⟨[(30, i64 k), (29, i64 S.length), (28, .sl 0 S.length), (4, .mp 3), (1, .ptr 2 0 0 0)], [(3, .obj (.set ((S.take k).map (·.name)))), (2, .blk 37 [.sl 0 S.length, .sl 1 T.length]), (0, .ro S.length 5 (secC S)), (1, .ro T.length 4 (shfC T))], 4⟩) (fun k => k ≤ S.length ∧ secsS S = firstS (((List.range S.length).map (secAt S)).drop k)) (fun k => S.length - k) 0 ⟨?_, sub_intro hm [(0, some 0), (1, some 1), (2, some 2), (3, some 4)] rfl ?_⟩ ?_
        · exact ⟨Nat.zero_le _, rfl⟩
        · exact sd
        · rintro k ⟨hk, hf⟩
          repeat first | refine lwp_seq fun K hK => ?_ | (with_reducible refine gA ?_; apply_assumption -exfalso -symm) | refine Stp.h ?_ | refine gF rfl ?_ | refine gG rfl ?_ | refine gM hC rfl sd ?_
          refine lwp_condS hC rfl sd ?_ ?_ <;> intro hb
          · have hk2 : k < S.length := by omega
            rw [firstR_drop _ _ _ hk2] at hf
            have HF := Lib.hid hf
            clear hf
            repeat first | refine lwp_seq fun K hK => ?_ | (with_reducible refine gA ?_; apply_assumption -exfalso -symm) | refine Stp.h ?_ | refine gF rfl ?_ | refine gG rfl ?_ | refine gM hC rfl sd ?_
            rw [Int.toNat_natCast]
            (refine lwp_drawn hC (by rw [hP]; exact mixed) ⟨[], [], [(2, SName_i (S.getD k secD).name), (4, PWhen_i (!nameOk (S.getD k secD).name) 8), (9, PWhen_i (memS ((S.take k).map (·.name)) (S.getD k secD).name) 9), (11, SecC_i (S.getD k secD)), (13, PFirst_i [whenS (!nameOk (S.getD k secD).name) 8, whenS (memS ((S.take k).map (·.name)) (S.getD k secD).name) 9, secE (S.getD k secD)] [(0, some 6)])]⟩ (told1 _ (by rw [hP]; exact (calls_cons (SName_s _) (calls_cons (PWhen_s _ _) (calls_cons (PWhen_s _ _) (calls_cons (SecC_s _) (calls_cons (PFirst_s _ _ (by simp)) calls_nil))))))) [0, 1, 3, 7, 15, 0, 0, 64, 224, 511, 0, 2047, 4095, 8191, 16383] 11 rfl ?_ ?_; rotate_left 1)
            · repeat first | refine lwp_seq fun K hK => ?_ | (with_reducible refine gA ?_; apply_assumption -exfalso -symm) | refine Stp.h ?_ | refine gF rfl ?_ | refine gG rfl ?_ | refine gM hC rfl sd ?_
              refine lwp_condS hC rfl sd ?_ ?_ <;> intro hb
              · have hf := HF.out
                have e := E.out
                rw [if_neg (show ¬ secAt S k = 0 from hb)] at hf
                have e2 : offE S T = secAt S k := by
                  rw [e, hf]; simp only [firstS, if_neg (show ¬ secAt S k = 0 from hb)]
                clear hf e HF E
                have HE := Lib.hid e2
                clear e2
                repeat first | refine lwp_seq fun K hK => ?_ | (with_reducible refine gA ?_; apply_assumption -exfalso -symm) | refine Stp.h ?_ | refine gF rfl ?_ | refine gG rfl ?_ | refine gM hC rfl sd ?_
                (refine end_intro (by first | exact .inr rfl | exact .inl rfl) [] rfl ?_)
                rw [HE.out]
                exact ⟨rfl, trivial⟩
              · have hf := HF.out
                rw [if_pos (show secAt S k = 0 from hb)] at hf
                have hm : memS ((S.take k).map (·.name)) (S.getD k secD).name = false := by
                  have h2 := ((firstS_cons _ _).1 ((firstS_cons _ _).1 (show secAt S k = 0 from hb)).2).1
                  exact (whenS_zero (by decide)).1 h2
                have hu : setU ((S.take k).map (·.name)) (S.getD k secD).name = (S.take (k + 1)).map (·.name) := by
                  unfold setU
                  rw [hm, take_snoc S secD k hk2]
                  simp
                have HG := Lib.hid hf
                clear hb hm hf HF
                repeat first | refine lwp_seq fun K hK => ?_ | (with_reducible refine gA ?_; apply_assumption -exfalso -symm) | refine Stp.h ?_ | refine gF rfl ?_ | refine gG rfl ?_ | refine gM hC rfl sd ?_
                refine gA ⟨k + 1, ?_, ?_, sub_intro hm [(0, some 0), (1, some 1), (2, some 2), (3, some 3)] rfl ?_⟩
                · exact ⟨by omega, HG.out⟩
                · omega
                · exact sd
            · exact sd
          · obtain rfl : k = S.length := by omega
            rw [firstR_all] at hf
            have e := E.out
            rw [hf] at e
            have e : offE S T = shfsS T := by rw [e]; simp only [firstS, if_true]; split <;> simp_all
            have E2 := Lib.hid e
            clear hb hf e E
            repeat first | refine lwp_seq fun K hK => ?_ | (with_reducible refine gA ?_; apply_assumption -exfalso -symm) | refine Stp.h ?_ | refine gF rfl ?_ | refine gG rfl ?_ | refine gM hC rfl sd ?_
            refine lwp_loop (fun k : Nat => ⟨[(58, i64 k), (57, i64 T.length), (56, .sl 1 T.length), (1, .ptr 2 0 0 0)], [(2, .blk 37 [.sl 0 S.length, .sl 1 T.length]), (0, .ro S.length 5 (secC S)), (1, .ro T.length 4 (shfC T))], 3⟩) (fun k => k ≤ T.length ∧ shfsS T = firstS (((List.range T.length).map (shfAt T)).drop k)) (fun k => T.length - k) 0 ⟨?_, sub_intro hm [(0, some 0), (1, some 1), (2, some 2)] rfl ?_⟩ ?_
            · exact ⟨Nat.zero_le _, rfl⟩
            · exact sd
            · clear hk
              rintro k ⟨hk, hf⟩
              repeat first | refine lwp_seq fun K hK => ?_ | (with_reducible refine gA ?_; apply_assumption -exfalso -symm) | refine Stp.h ?_ | refine gF rfl ?_ | refine gG rfl ?_ | refine gM hC rfl sd ?_
              refine lwp_condS hC rfl sd ?_ ?_ <;> intro hb
              · have hk2 : k < T.length := by omega
                rw [firstR_drop _ _ _ hk2] at hf
                have HF := Lib.hid hf
                clear hf
                have hkk : ((k : Int)).toNat = k := Int.toNat_natCast k
                have hix : (if (k : Int) - 1 > 0 then (k : Int) - 1 else 0).toNat = k - 1 := by split <;> omega
                repeat first | refine lwp_seq fun K hK => ?_ | (with_reducible refine gA ?_; apply_assumption -exfalso -symm) | refine Stp.h ?_ | refine gF rfl ?_ | refine gG rfl ?_ | refine gM hC rfl sd ?_
                rw [hkk]
                (refine lwp_drawn2 hC (by rw [hP]; exact mixed) ⟨[], [], [(1, ShfC_i (T.getD k shfD)), (17, PWhen_i (lastDay T k) 11), (19, PFirst_i [shfE (T.getD k shfD), whenS (lastDay T k) 11] [(0, some 5)])]⟩ (told1 _ (by rw [hP]; exact (calls_cons (ShfC_s _) (calls_cons (PWhen_s _ _) (calls_cons (PFirst_s _ _ (by simp)) calls_nil))))) [0, 1, 0, 4, 15, 31, 63, 31, 159, 31, 543, 1567, 3999, 8095, 16287, 32767, 65535, 131071, 262143, 524287, 1048575] 21 0 rfl ?_ ?_; rotate_left 1)
                · repeat first | refine lwp_seq fun K hK => ?_ | (with_reducible refine gA ?_; apply_assumption -exfalso -symm) | refine Stp.h ?_ | refine gF rfl ?_ | refine gG rfl ?_ | refine gM hC rfl sd ?_
                  refine lwp_condS hC rfl sd ?_ ?_ <;> intro hb
                  · have hf := HF.out
                    rw [if_neg (show ¬ shfAt T k = 0 from hb), ← E2.out] at hf
                    have HE := Lib.hid hf
                    clear hf HF
                    repeat first | refine lwp_seq fun K hK => ?_ | (with_reducible refine gA ?_; apply_assumption -exfalso -symm) | refine Stp.h ?_ | refine gF rfl ?_ | refine gG rfl ?_ | refine gM hC rfl sd ?_
                    (refine end_intro (by first | exact .inr rfl | exact .inl rfl) [] rfl ?_)
                    rw [HE.out]
                    exact ⟨rfl, trivial⟩
                  · have hf := HF.out
                    rw [if_pos (show shfAt T k = 0 from hb)] at hf
                    have HG := Lib.hid hf
                    clear hb hf HF
                    repeat first | refine lwp_seq fun K hK => ?_ | (with_reducible refine gA ?_; apply_assumption -exfalso -symm) | refine Stp.h ?_ | refine gF rfl ?_ | refine gG rfl ?_ | refine gM hC rfl sd ?_
                    refine gA ⟨k + 1, ?_, ?_, sub_intro hm [(0, some 0), (1, some 1), (2, some 2)] rfl ?_⟩
                    · exact ⟨by omega, HG.out⟩
                    · omega
                    · exact sd
                · rw [hix]
                  exact sd
              · obtain rfl : k = T.length := by omega
                rw [firstR_all, ← E2.out] at hf
                have HE := Lib.hid hf
                clear hf
                repeat first | refine lwp_seq fun K hK => ?_ | (with_reducible refine gA ?_; apply_assumption -exfalso -symm) | refine Stp.h ?_ | refine gF rfl ?_ | refine gG rfl ?_ | refine gM hC rfl sd ?_
                (refine end_intro (by first | exact .inr rfl | exact .inl rfl) [] rfl ?_)
                rw [HE.out]
                exact ⟨rfl, trivial⟩
      · exact sd
  · exact sd

end Go.Proofs.YtccddhoeampdjaaGreatDoor
