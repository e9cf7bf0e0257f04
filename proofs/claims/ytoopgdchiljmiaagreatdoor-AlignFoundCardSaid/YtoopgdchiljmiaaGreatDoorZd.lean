/- Contracts: IsName, the program's over runes and the reference's over bytes. -/
import Derived.Test.YtoopgdchiljmiaaGreatDoorChecked
import Derived.Test.YtoopgdchiljmiaaGreatDoorLib
import Derived.Test.YtoopgdchiljmiaaGreatDoorZb
import Derived.Deep.LoopGhost
set_option linter.unusedVariables false
set_option linter.unusedSimpArgs false
namespace Go.Proofs.YtoopgdchiljmiaaGreatDoor
open Go.RowKit

theorem letter_c (c : Int) (w : World) : Calls Tryz.prog 212 #[.int .i32 c] w fun r w' => r = .returned (.bool (letZ c)) ∧ w = w' := by
  by_cases h1 : 97 ≤ c <;> by_cases h2 : c ≤ 122 <;> by_cases h3 : 65 ≤ c <;> by_cases h4 : c ≤ 90
  all_goals
    go_enter Tryz.func212, Tryz.ntmps212
    go_wp2
    go_ret
    exact ⟨by simp [letZ, *], rfl⟩
theorem digit_c (c : Int) (w : World) : Calls Tryz.prog 213 #[.int .i32 c] w fun r w' => r = .returned (.bool (digZ c)) ∧ w = w' := by
  by_cases h1 : 48 ≤ c <;> by_cases h2 : c ≤ 57
  all_goals
    go_enter Tryz.func213, Tryz.ntmps213
    go_wp2
    go_ret
    exact ⟨by simp [digZ, *], rfl⟩
theorem isLetter_c (c : Int) (w : World) : Calls Tryz.prog 216 #[.int .u8 c] w fun r w' => r = .returned (.bool (letZ c)) ∧ w = w' := by
  by_cases h1 : 97 ≤ c <;> by_cases h2 : c ≤ 122 <;> by_cases h3 : 65 ≤ c <;> by_cases h4 : c ≤ 90
  all_goals
    go_enter Tryz.func216, Tryz.ntmps216
    go_wp2
    go_ret
    exact ⟨by simp [letZ, *], rfl⟩
theorem isDigit_c (c : Int) (w : World) : Calls Tryz.prog 206 #[.int .u8 c] w fun r w' => r = .returned (.bool (digZ c)) ∧ w = w' := by
  by_cases h1 : 48 ≤ c <;> by_cases h2 : c ≤ 57
  all_goals
    go_enter Tryz.func206, Tryz.ntmps206
    go_wp2
    go_ret
    exact ⟨by simp [digZ, *], rfl⟩

set_option maxHeartbeats 2000000 in
set_option maxRecDepth 100000 in
theorem IsName_c (s : ByteArray) (w : World) : Calls Tryz.prog 177 #[.string s] w fun r w' => r = .returned (.bool (nameOk s)) ∧ Below w.heap.size w w' := by
  have hlast : nameOk s = (nameR s s.size 0 && (decide (0 < s.size) && decide (s.size ≤ 24))) := by unfold nameOk; rw [nameR_eq]
  go_enter Tryz.func177, Tryz.ntmps177
  go_wp2
  go_loopg [] s.size (fun g wx => ∃ pos : Nat, wx.heap[w.heap.size]? = some (.stringIter s pos) ∧ Below w.heap.size w wx ∧ nameR s g pos = nameR s s.size 0 ∧ s.size ≤ pos + g)
  case atStart => exact ⟨0, World.iter_heap w s 0, (Below.refl _ w).alloc (Nat.le_refl _) _, rfl, by omega⟩
  case round =>
    obtain ⟨pos, hit, hbw, hleft, hfu⟩ := hrel
    have hsz : w.heap.size < wr.heap.size := (Array.getElem?_eq_some_iff.1 hit).1
    by_cases hp : pos < s.size
    · obtain ⟨g, rfl⟩ : ∃ g, gk = g + 1 := ⟨gk - 1, by omega⟩
      have hnx : ∀ ty, (Instr.next (.pointer (some ⟨w.heap.size, 0, none⟩)) true ty).run Tryz.prog wr = _ := fun ty => Lib.run_next_any_at wr w.heap.size s pos ty hit hp
      have hwd := width_ge s pos
      have hr1 := rune_lt s pos
      obtain ⟨R, hR⟩ : ∃ R, (Utf8.decode s pos).1 = R := ⟨_, rfl⟩
      obtain ⟨K, hK⟩ : ∃ K, (Utf8.decode s pos).2 = K := ⟨_, rfl⟩
      simp only [nameR, hp, if_true, hR, hK] at hleft
      rw [hR, hK] at hnx
      rw [hR] at hr1
      rw [hK] at hwd
      have hit2 := Lib.iterAt_heap wr w.heap.size s pos (pos + K) hit
      have hbw2 := Lib.below_iterAt hbw (k := w.heap.size) (Nat.le_refl _) s (pos + K)
      obtain ⟨W, hWd⟩ : ∃ W, wr.iterAt w.heap.size s (pos + K) = W := ⟨_, rfl⟩
      rw [hWd] at hnx hit2 hbw2
      have HL := Lib.hid hleft
      clear hleft
      have cL := letter_c (R : Nat) W
      have cD := digit_c (R : Nat) W
      cases hl : letZ (R : Nat) with
      | true =>
        have hg : goodZ pos (R : Nat) = true := by simp [goodZ, hl]
        have H2 := Lib.hid (show nameR s g (pos + K) = nameR s s.size 0 by rw [← HL.out, hg]; rfl)
        rw [hl] at cL
        go_wp2_with (go_at_call 212; refine (cL).mono ?_; rintro e w' ⟨rfl, rfl⟩)
        go_roundg g
        case measure => omega
        case rel => exact ⟨pos + K, hit2, hbw2, H2.out, by omega⟩
      | false =>
        rw [hl] at cL
        have bad : goodZ pos (R : Nat) = false → nameOk s = false := fun hg => by
          have := HL.out
          rw [hg] at this
          rw [hlast, ← this]; rfl
        have ok : goodZ pos (R : Nat) = true → nameR s g (pos + K) = nameR s s.size 0 := fun hg => by
          have := HL.out
          rw [hg] at this
          exact this
        have HB := Lib.hid bad
        have HO := Lib.hid ok
        clear bad ok HL hlast
        by_cases h0 : (pos : Int) = 0
        · have hg := HB.out (by have : pos = 0 := by omega
                                simp [goodZ, hl, this])
          go_wp2_with (go_at_call 212; refine (cL).mono ?_; rintro e w' ⟨rfl, rfl⟩)
          go_ret
          exact ⟨by rw [hg]; rfl, hbw2⟩
        · have hp0 : pos ≠ 0 := by omega
          have hbq : ((pos : Int) == 0) = false := by simpa using h0
          cases hd : digZ (R : Nat) with
          | true =>
            rw [hd] at cD
            have hg := HO.out (by simp [goodZ, hd, hp0])
            have H2 := Lib.hid hg
            clear hg
            go_wp2_with (first | (go_at_call 213; refine (cD).mono ?_; rintro e w' ⟨rfl, rfl⟩) | (go_at_call 212; refine (cL).mono ?_; rintro e w' ⟨rfl, rfl⟩))
            go_roundg g
            case measure => omega
            case rel => exact ⟨pos + K, hit2, hbw2, H2.out, by omega⟩
          | false =>
            rw [hd] at cD
            by_cases h95 : ((R : Nat) : Int) = 95
            · have hg := HO.out (by simp only [goodZ, hl, hd, h95]; simp [hp0])
              have H2 := Lib.hid hg
              have hbn : (((R : Nat) : Int) != 95) = false := by simp [h95]
              clear hg h95
              go_wp2_with (first | (go_at_call 213; refine (cD).mono ?_; rintro e w' ⟨rfl, rfl⟩) | (go_at_call 212; refine (cL).mono ?_; rintro e w' ⟨rfl, rfl⟩))
              go_roundg g
              case measure => omega
              case rel => exact ⟨pos + K, hit2, hbw2, H2.out, by omega⟩
            · have hg := HB.out (by simp only [goodZ, hl, hd, decide_eq_false h95]; simp)
              have hbn : (((R : Nat) : Int) != 95) = true := by simpa using h95
              go_wp2_with (first | (go_at_call 213; refine (cD).mono ?_; rintro e w' ⟨rfl, rfl⟩) | (go_at_call 212; refine (cL).mono ?_; rintro e w' ⟨rfl, rfl⟩))
              go_ret
              exact ⟨by rw [hg]; rfl, hbw2⟩
    · have hnx : ∀ ty, (Instr.next (.pointer (some ⟨w.heap.size, 0, none⟩)) true ty).run Tryz.prog wr = _ := fun ty => Lib.run_next_end_at wr w.heap.size s pos ty hit hp
      rw [nameR_end s gk pos hp] at hleft
      rw [← hleft, Bool.true_and] at hlast
      have HL := Lib.hid hlast
      clear hlast hleft
      go_wp2
      all_goals
        go_ret
        refine ⟨?_, hbw⟩
        rw [HL.out]
        simp [*]
        try omega

theorem nameOk_out (s : ByteArray) (h : s.size = 0 ∨ 24 < s.size) : nameOk s = false := by
  unfold nameOk
  rcases h with h | h <;> simp <;> intros <;> omega
theorem nameOk_first (s : ByteArray) (h0 : 0 < s.size) (h1 : s.size ≤ 24) : nameOk s = if letZ ((s[0]'h0).toNat : Nat) then nameB s (s.size - 1) 1 else false := by
  obtain ⟨n, hn⟩ : ∃ n, s.size = n + 1 := ⟨s.size - 1, by omega⟩
  have e : nameOk s = nameB s (n + 1) 0 := by
    unfold nameOk
    rw [hn]
    simp
    intro _; omega
  rw [e, nameB, dif_pos h0, hn]
  have eg : goodZ 0 ((s[0]'h0).toNat : Nat) = letZ ((s[0]'h0).toNat : Nat) := by simp [goodZ]
  rw [eg]
  rfl
set_option maxHeartbeats 4000000 in
set_option maxRecDepth 100000 in
theorem RIsName_c (s : ByteArray) (w : World) (hs : s.size ≤ 1000000) : Calls Tryz.prog 184 #[.string s] w fun r w' => r = .returned (.bool (nameOk s)) ∧ w = w' := by
  by_cases h1 : s.size = 0
  · have HL := Lib.hid (nameOk_out s (.inl h1))
    have hb : ((s.size : Int) == 0) = true := by simp [h1]
    clear h1
    go_enter Tryz.func184, Tryz.ntmps184
    go_wp2
    go_ret
    exact ⟨by rw [HL.out]; rfl, rfl⟩
  have hb1 : ((s.size : Int) == 0) = false := by simpa using h1
  by_cases h2 : 24 < s.size
  · have HL := Lib.hid (nameOk_out s (.inr h2))
    have h3 : (24 : Int) < (s.size : Int) := by omega
    go_enter Tryz.func184, Tryz.ntmps184
    go_wp2
    go_ret
    exact ⟨by rw [HL.out]; rfl, rfl⟩
  have h3 : ¬ (24 : Int) < (s.size : Int) := by omega
  have hsz : 0 < s.size := by omega
  have hN := nameOk_first s hsz (by omega)
  obtain ⟨B, hB⟩ : ∃ B : Nat, (s[0]'hsz).toNat = B := ⟨_, rfl⟩
  have cL := isLetter_c (B : Nat) w
  rw [hB] at hN
  cases hl : letZ (B : Nat) with
  | false =>
    rw [hl] at cL hN
    have HL := Lib.hid hN
    clear hN
    go_enter Tryz.func184, Tryz.ntmps184
    go_wp2_with (go_at_call 216; refine (cL).mono ?_; rintro e w' ⟨rfl, rfl⟩)
    go_ret
    exact ⟨by rw [HL.out]; rfl, rfl⟩
  | true =>
    rw [hl, if_pos rfl] at hN
    rw [hl] at cL
    have HL := Lib.hid hN
    clear hN
    go_enter Tryz.func184, Tryz.ntmps184
    go_wp2_with (go_at_call 216; refine (cL).mono ?_; rintro e w' ⟨rfl, rfl⟩)
    go_loopg [3] (s.size - 1) (fun g i wx => ∃ k : Nat, i = .int .i64 (k : Nat) ∧ wx = w ∧ k + g = s.size ∧ 1 ≤ k ∧ nameB s g k = nameOk s)
    case atStart => exact ⟨1, rfl, rfl, by omega, by omega, HL.out.symm⟩
    case round =>
      obtain ⟨k, rfl, rfl, hk, hk1, hb⟩ := hrel
      have HB := Lib.hid hb
      clear hb HL
      by_cases hp : k < s.size
      · obtain ⟨g, rfl⟩ : ∃ g, gk = g + 1 := ⟨gk - 1, by omega⟩
        obtain ⟨R, hR⟩ : ∃ R : Nat, (s[k]'hp).toNat = R := ⟨_, rfl⟩
        have h5 := HB.out
        rw [nameB, dif_pos hp, hR] at h5
        have H5 := Lib.hid h5
        clear h5 HB hB cL hb1
        have cL := isLetter_c (R : Nat) wr
        have cD := isDigit_c (R : Nat) wr
        have hp2 : (k : Int) < (s.size : Int) := by omega
        have bad : goodZ k (R : Nat) = false → nameOk s = false := fun hg => by rw [← H5.out, hg]; rfl
        have ok : goodZ k (R : Nat) = true → nameB s g (k + 1) = nameOk s := fun hg => by rw [← H5.out, hg]; rfl
        have HB := Lib.hid bad
        have HO := Lib.hid ok
        clear bad ok H5
        have hk0 : k ≠ 0 := by omega
        cases hl2 : letZ (R : Nat) with
        | true =>
          rw [hl2] at cL
          have HG := Lib.hid (HO.out (by simp [goodZ, hl2]))
          go_wp2_with (go_at_call 216; refine (cL).mono ?_; rintro e w' ⟨rfl, rfl⟩)
          go_roundg g
          case measure => omega
          case rel => exact ⟨k + 1, by go_num, rfl, by omega, by omega, HG.out⟩
        | false =>
          rw [hl2] at cL
          cases hd : digZ (R : Nat) with
          | true =>
            rw [hd] at cD
            have HG := Lib.hid (HO.out (by simp [goodZ, hd, hk0]))
            go_wp2_with (first | (go_at_call 206; refine (cD).mono ?_; rintro e w' ⟨rfl, rfl⟩) | (go_at_call 216; refine (cL).mono ?_; rintro e w' ⟨rfl, rfl⟩))
            go_roundg g
            case measure => omega
            case rel => exact ⟨k + 1, by go_num, rfl, by omega, by omega, HG.out⟩
          | false =>
            rw [hd] at cD
            by_cases h95 : ((R : Nat) : Int) = 95
            · have HG := Lib.hid (HO.out (by simp only [goodZ, hl2, hd, h95]; simp [hk0]))
              have hbn : (((R : Nat) : Int) != 95) = false := by simp [h95]
              clear h95
              go_wp2_with (first | (go_at_call 206; refine (cD).mono ?_; rintro e w' ⟨rfl, rfl⟩) | (go_at_call 216; refine (cL).mono ?_; rintro e w' ⟨rfl, rfl⟩))
              go_roundg g
              case measure => omega
              case rel => exact ⟨k + 1, by go_num, rfl, by omega, by omega, HG.out⟩
            · have HG := Lib.hid (HB.out (by simp only [goodZ, hl2, hd, decide_eq_false h95]; simp))
              have hbn : (((R : Nat) : Int) != 95) = true := by simpa using h95
              go_wp2_with (first | (go_at_call 206; refine (cD).mono ?_; rintro e w' ⟨rfl, rfl⟩) | (go_at_call 216; refine (cL).mono ?_; rintro e w' ⟨rfl, rfl⟩))
              go_ret
              exact ⟨by rw [HG.out]; rfl, rfl⟩
      · go_wp2
        go_ret
        exact ⟨by rw [← HB.out, nameB_end s gk k hp]; rfl, rfl⟩

end Go.Proofs.YtoopgdchiljmiaaGreatDoor
