/- Names, small checks, lists place by place. -/
import Derived.Lib.DecodeN
import Derived.Lib.OthersKept
import Derived.Laws.RangeString
import Derived.Test.YtlhgddgoblliaaaGreatDoorChecked
import Derived.Test.YtlhgddgoblliaaaGreatDoorLib
import Derived.Deep.LoopGhost
import Derived.Test.YtlhgddgoblliaaaGreatDoorSymP
import Derived.Test.YtlhgddgoblliaaaGreatDoorQk
set_option linter.unusedVariables false
set_option linter.unusedSimpArgs false
namespace Go.Proofs.YtlhgddgoblliaaaGreatDoor

def letZ (c : Int) : Bool := (decide (97 ≤ c) && decide (c ≤ 122)) || (decide (65 ≤ c) && decide (c ≤ 90))
def digZ (c : Int) : Bool := decide (48 ≤ c) && decide (c ≤ 57)
/-- A character that may stand at a place of a name. -/
def goodZ (i : Nat) (c : Int) : Bool := letZ c || (decide (i ≠ 0) && (digZ c || decide (c = 95)))
/-- The runes of a string from a place on may. -/
def nameR (s : ByteArray) : Nat → Nat → Bool
  | 0, _ => true
  | g + 1, pos => if pos < s.size then (if goodZ pos ((Utf8.decode s pos).1 : Nat) then nameR s g (pos + (Utf8.decode s pos).2) else false) else true
/-- Its bytes may. -/
def nameB (s : ByteArray) : Nat → Nat → Bool
  | 0, _ => true
  | g + 1, pos => if h : pos < s.size then (if goodZ pos ((s[pos]'h).toNat : Nat) then nameB s g (pos + 1) else false) else true
def nameOk (s : ByteArray) : Bool := nameB s s.size 0 && (decide (0 < s.size) && decide (s.size ≤ 24))

theorem good_lt {i c : Nat} (h : goodZ i (c : Nat) = true) : c < 128 := by
  unfold goodZ letZ digZ at h
  simp only [Bool.or_eq_true, Bool.and_eq_true, decide_eq_true_eq] at h
  omega
theorem decodeN_high (n b0 b1 b2 b3 : Nat) (h : 128 ≤ b0) : 128 ≤ (Lib.decodeN n b0 b1 b2 b3).1 := by
  unfold Lib.decodeN
  repeat' split
  all_goals (simp only; omega)
theorem width_ge (s : ByteArray) (pos : Nat) : 1 ≤ (Utf8.decode s pos).2 := by
  rw [Lib.decode_at]
  unfold Lib.decodeN
  repeat' split
  all_goals (simp only; omega)
theorem rune_lt (s : ByteArray) (pos : Nat) : (Utf8.decode s pos).1 < 2000000 := by
  rw [Lib.decode_at]
  have h0 := UInt8.toNat_lt (s.get! pos)
  unfold Lib.decodeN
  repeat' split
  all_goals (simp only; omega)
theorem decode_high (s : ByteArray) (pos : Nat) (h : pos < s.size) (ha : ¬ (s[pos]'h).toNat < 128) : 128 ≤ (Utf8.decode s pos).1 := by
  rw [Lib.decode_at]
  refine decodeN_high _ _ _ _ _ ?_
  have e : s.get! pos = s[pos]'h := by
    simp [ByteArray.get!, getElem!_pos, h]
    rfl
  rw [e]; omega
theorem nameR_eq (s : ByteArray) : ∀ g pos, nameR s g pos = nameB s g pos
  | 0, _ => rfl
  | g + 1, pos => by
    rw [nameR, nameB]
    by_cases h : pos < s.size
    · rw [if_pos h, dif_pos h]
      by_cases ha : (s[pos]'h).toNat < 128
      · rw [decode_ascii s pos h ha]
        simp only [nameR_eq s g (pos + 1)]
      · have h1 := decode_high s pos h ha
        have e1 : goodZ pos ((Utf8.decode s pos).1 : Nat) = false := by
          cases e : goodZ pos ((Utf8.decode s pos).1 : Nat) with
          | false => rfl
          | true => exact absurd (good_lt e) (by omega)
        have e2 : goodZ pos ((s[pos]'h).toNat : Nat) = false := by
          cases e : goodZ pos ((s[pos]'h).toNat : Nat) with
          | false => rfl
          | true => exact absurd (good_lt e) ha
        rw [e1, e2]
        rfl
    · rw [if_neg h, dif_neg h]
theorem nameR_end (s : ByteArray) (g pos : Nat) (h : ¬ pos < s.size) : nameR s g pos = true := by
  cases g with
  | zero => rfl
  | succ g => rw [nameR, if_neg h]
theorem nameB_end (s : ByteArray) (g pos : Nat) (h : ¬ pos < s.size) : nameB s g pos = true := by
  cases g with
  | zero => rfl
  | succ g => rw [nameB, dif_neg h]

end Go.Proofs.YtlhgddgoblliaaaGreatDoor

namespace Go.Proofs.YtlhgddgoblliaaaGreatDoor
open Go.RowKit

theorem letter_c (c : Int) (w : World) : Calls Tryz.prog 128 #[.int .i32 c] w fun r w' => r = .returned (.bool (letZ c)) ∧ w = w' := by
  by_cases h1 : 97 ≤ c <;> by_cases h2 : c ≤ 122 <;> by_cases h3 : 65 ≤ c <;> by_cases h4 : c ≤ 90
  all_goals
    go_enter Tryz.func128, Tryz.ntmps128
    go_wp2
    go_ret
    exact ⟨by simp [letZ, *], rfl⟩
theorem digit_c (c : Int) (w : World) : Calls Tryz.prog 129 #[.int .i32 c] w fun r w' => r = .returned (.bool (digZ c)) ∧ w = w' := by
  by_cases h1 : 48 ≤ c <;> by_cases h2 : c ≤ 57
  all_goals
    go_enter Tryz.func129, Tryz.ntmps129
    go_wp2
    go_ret
    exact ⟨by simp [digZ, *], rfl⟩
theorem isLetter_c (c : Int) (w : World) : Calls Tryz.prog 158 #[.int .u8 c] w fun r w' => r = .returned (.bool (letZ c)) ∧ w = w' := by
  by_cases h1 : 97 ≤ c <;> by_cases h2 : c ≤ 122 <;> by_cases h3 : 65 ≤ c <;> by_cases h4 : c ≤ 90
  all_goals
    go_enter Tryz.func158, Tryz.ntmps158
    go_wp2
    go_ret
    exact ⟨by simp [letZ, *], rfl⟩
theorem isDigit_c (c : Int) (w : World) : Calls Tryz.prog 159 #[.int .u8 c] w fun r w' => r = .returned (.bool (digZ c)) ∧ w = w' := by
  by_cases h1 : 48 ≤ c <;> by_cases h2 : c ≤ 57
  all_goals
    go_enter Tryz.func159, Tryz.ntmps159
    go_wp2
    go_ret
    exact ⟨by simp [digZ, *], rfl⟩

set_option maxHeartbeats 2000000 in
set_option maxRecDepth 100000 in
theorem IsName_c (s : ByteArray) (w : World) : Calls Tryz.prog 71 #[.string s] w fun r w' => r = .returned (.bool (nameOk s)) ∧ Below w.heap.size w w' := by
  have hlast : nameOk s = (nameR s s.size 0 && (decide (0 < s.size) && decide (s.size ≤ 24))) := by unfold nameOk; rw [nameR_eq]
  go_enter Tryz.func71, Tryz.ntmps71
  go_wp2
  go_loopg [] s.size (fun g wx => ∃ pos : Nat, wx.heap[w.heap.size]? = some (.stringIter s pos) ∧ Below w.heap.size w wx ∧ nameR s g pos = nameR s s.size 0 ∧ s.size ≤ pos + g)
  case atStart => exact ⟨0, World.iter_heap w s 0, (Below.refl _ w).alloc (Nat.le_refl _) _, rfl, by omega⟩
  case round =>
    obtain ⟨pos, hit, hbw, hleft, hfu⟩ := hrel
    have hsz : w.heap.size < wr.heap.size := (Array.getElem?_eq_some_iff.1 hit).1
    by_cases hp : pos < s.size
    · obtain ⟨g, rfl⟩ : ∃ g, gk = g + 1 := ⟨gk - 1, by omega⟩
      have hnx : ∀ ty, (Instr.next (.pointer (some ⟨w.heap.size, 0, none⟩)) true ty).run Tryz.prog wr = _ := fun ty => Lib.run_next_any_at wr w.heap.size s pos ty hit hp
      have hwd := width_ge s pos
      have hr1 := rune_lt s pos
      obtain ⟨R, hR⟩ : ∃ R, (Utf8.decode s pos).1 = R := ⟨_, rfl⟩
      obtain ⟨K, hK⟩ : ∃ K, (Utf8.decode s pos).2 = K := ⟨_, rfl⟩
      simp only [nameR, hp, if_true, hR, hK] at hleft
      rw [hR, hK] at hnx
      rw [hR] at hr1
      rw [hK] at hwd
      have hit2 := Lib.iterAt_heap wr w.heap.size s pos (pos + K) hit
      have hbw2 := Lib.below_iterAt hbw (k := w.heap.size) (Nat.le_refl _) s (pos + K)
      obtain ⟨W, hWd⟩ : ∃ W, wr.iterAt w.heap.size s (pos + K) = W := ⟨_, rfl⟩
      rw [hWd] at hnx hit2 hbw2
      have HL := Lib.hid hleft
      clear hleft
      have cL := letter_c (R : Nat) W
      have cD := digit_c (R : Nat) W
      cases hl : letZ (R : Nat) with
      | true =>
        have hg : goodZ pos (R : Nat) = true := by simp [goodZ, hl]
        have H2 := Lib.hid (show nameR s g (pos + K) = nameR s s.size 0 by rw [← HL.out, hg]; rfl)
        rw [hl] at cL
        go_wp2_with (go_at_call 128; refine (cL).mono ?_; rintro e w' ⟨rfl, rfl⟩)
        go_roundg g
        case measure => omega
        case rel => exact ⟨pos + K, hit2, hbw2, H2.out, by omega⟩
      | false =>
        rw [hl] at cL
        have bad : goodZ pos (R : Nat) = false → nameOk s = false := fun hg => by
          have := HL.out
          rw [hg] at this
          rw [hlast, ← this]; rfl
        have ok : goodZ pos (R : Nat) = true → nameR s g (pos + K) = nameR s s.size 0 := fun hg => by
          have := HL.out
          rw [hg] at this
          exact this
        have HB := Lib.hid bad
        have HO := Lib.hid ok
        clear bad ok HL hlast
        by_cases h0 : (pos : Int) = 0
        · have hg := HB.out (by have : pos = 0 := by omega
                                simp [goodZ, hl, this])
          go_wp2_with (go_at_call 128; refine (cL).mono ?_; rintro e w' ⟨rfl, rfl⟩)
          go_ret
          exact ⟨by rw [hg]; rfl, hbw2⟩
        · have hp0 : pos ≠ 0 := by omega
          have hbq : ((pos : Int) == 0) = false := by simpa using h0
          cases hd : digZ (R : Nat) with
          | true =>
            rw [hd] at cD
            have hg := HO.out (by simp [goodZ, hd, hp0])
            have H2 := Lib.hid hg
            clear hg
            go_wp2_with (first | (go_at_call 129; refine (cD).mono ?_; rintro e w' ⟨rfl, rfl⟩) | (go_at_call 128; refine (cL).mono ?_; rintro e w' ⟨rfl, rfl⟩))
            go_roundg g
            case measure => omega
            case rel => exact ⟨pos + K, hit2, hbw2, H2.out, by omega⟩
          | false =>
            rw [hd] at cD
            by_cases h95 : ((R : Nat) : Int) = 95
            · have hg := HO.out (by simp only [goodZ, hl, hd, h95]; simp [hp0])
              have H2 := Lib.hid hg
              have hbn : (((R : Nat) : Int) != 95) = false := by simp [h95]
              clear hg h95
              go_wp2_with (first | (go_at_call 129; refine (cD).mono ?_; rintro e w' ⟨rfl, rfl⟩) | (go_at_call 128; refine (cL).mono ?_; rintro e w' ⟨rfl, rfl⟩))
              go_roundg g
              case measure => omega
              case rel => exact ⟨pos + K, hit2, hbw2, H2.out, by omega⟩
            · have hg := HB.out (by simp only [goodZ, hl, hd, decide_eq_false h95]; simp)
              have hbn : (((R : Nat) : Int) != 95) = true := by simpa using h95
              go_wp2_with (first | (go_at_call 129; refine (cD).mono ?_; rintro e w' ⟨rfl, rfl⟩) | (go_at_call 128; refine (cL).mono ?_; rintro e w' ⟨rfl, rfl⟩))
              go_ret
              exact ⟨by rw [hg]; rfl, hbw2⟩
    · have hnx : ∀ ty, (Instr.next (.pointer (some ⟨w.heap.size, 0, none⟩)) true ty).run Tryz.prog wr = _ := fun ty => Lib.run_next_end_at wr w.heap.size s pos ty hit hp
      rw [nameR_end s gk pos hp] at hleft
      rw [← hleft, Bool.true_and] at hlast
      have HL := Lib.hid hlast
      clear hlast hleft
      go_wp2
      all_goals
        go_ret
        refine ⟨?_, hbw⟩
        rw [HL.out]
        simp [*]
        try omega

theorem nameOk_out (s : ByteArray) (h : s.size = 0 ∨ 24 < s.size) : nameOk s = false := by
  unfold nameOk
  rcases h with h | h <;> simp <;> intros <;> omega
theorem nameOk_first (s : ByteArray) (h0 : 0 < s.size) (h1 : s.size ≤ 24) : nameOk s = if letZ ((s[0]'h0).toNat : Nat) then nameB s (s.size - 1) 1 else false := by
  obtain ⟨n, hn⟩ : ∃ n, s.size = n + 1 := ⟨s.size - 1, by omega⟩
  have e : nameOk s = nameB s (n + 1) 0 := by
    unfold nameOk
    rw [hn]
    simp
    intro _; omega
  rw [e, nameB, dif_pos h0, hn]
  have eg : goodZ 0 ((s[0]'h0).toNat : Nat) = letZ ((s[0]'h0).toNat : Nat) := by simp [goodZ]
  rw [eg]
  rfl
set_option maxHeartbeats 4000000 in
set_option maxRecDepth 100000 in
theorem RIsName_c (s : ByteArray) (w : World) (hs : s.size ≤ 1000000) : Calls Tryz.prog 127 #[.string s] w fun r w' => r = .returned (.bool (nameOk s)) ∧ w = w' := by
  by_cases h1 : s.size = 0
  · have HL := Lib.hid (nameOk_out s (.inl h1))
    have hb : ((s.size : Int) == 0) = true := by simp [h1]
    clear h1
    go_enter Tryz.func127, Tryz.ntmps127
    go_wp2
    go_ret
    exact ⟨by rw [HL.out]; rfl, rfl⟩
  have hb1 : ((s.size : Int) == 0) = false := by simpa using h1
  by_cases h2 : 24 < s.size
  · have HL := Lib.hid (nameOk_out s (.inr h2))
    have h3 : (24 : Int) < (s.size : Int) := by omega
    go_enter Tryz.func127, Tryz.ntmps127
    go_wp2
    go_ret
    exact ⟨by rw [HL.out]; rfl, rfl⟩
  have h3 : ¬ (24 : Int) < (s.size : Int) := by omega
  have hsz : 0 < s.size := by omega
  have hN := nameOk_first s hsz (by omega)
  obtain ⟨B, hB⟩ : ∃ B : Nat, (s[0]'hsz).toNat = B := ⟨_, rfl⟩
  have cL := isLetter_c (B : Nat) w
  rw [hB] at hN
  cases hl : letZ (B : Nat) with
  | false =>
    rw [hl] at cL hN
    have HL := Lib.hid hN
    clear hN
    go_enter Tryz.func127, Tryz.ntmps127
    go_wp2_with (go_at_call 158; refine (cL).mono ?_; rintro e w' ⟨rfl, rfl⟩)
    go_ret
    exact ⟨by rw [HL.out]; rfl, rfl⟩
  | true =>
    rw [hl, if_pos rfl] at hN
    rw [hl] at cL
    have HL := Lib.hid hN
    clear hN
    go_enter Tryz.func127, Tryz.ntmps127
    go_wp2_with (go_at_call 158; refine (cL).mono ?_; rintro e w' ⟨rfl, rfl⟩)
    go_loopg [3] (s.size - 1) (fun g i wx => ∃ k : Nat, i = .int .i64 (k : Nat) ∧ wx = w ∧ k + g = s.size ∧ 1 ≤ k ∧ nameB s g k = nameOk s)
    case atStart => exact ⟨1, rfl, rfl, by omega, by omega, HL.out.symm⟩
    case round =>
      obtain ⟨k, rfl, rfl, hk, hk1, hb⟩ := hrel
      have HB := Lib.hid hb
      clear hb HL
      by_cases hp : k < s.size
      · obtain ⟨g, rfl⟩ : ∃ g, gk = g + 1 := ⟨gk - 1, by omega⟩
        obtain ⟨R, hR⟩ : ∃ R : Nat, (s[k]'hp).toNat = R := ⟨_, rfl⟩
        have h5 := HB.out
        rw [nameB, dif_pos hp, hR] at h5
        have H5 := Lib.hid h5
        clear h5 HB hB cL hb1
        have cL := isLetter_c (R : Nat) wr
        have cD := isDigit_c (R : Nat) wr
        have hp2 : (k : Int) < (s.size : Int) := by omega
        have bad : goodZ k (R : Nat) = false → nameOk s = false := fun hg => by rw [← H5.out, hg]; rfl
        have ok : goodZ k (R : Nat) = true → nameB s g (k + 1) = nameOk s := fun hg => by rw [← H5.out, hg]; rfl
        have HB := Lib.hid bad
        have HO := Lib.hid ok
        clear bad ok H5
        have hk0 : k ≠ 0 := by omega
        cases hl2 : letZ (R : Nat) with
        | true =>
          rw [hl2] at cL
          have HG := Lib.hid (HO.out (by simp [goodZ, hl2]))
          go_wp2_with (go_at_call 158; refine (cL).mono ?_; rintro e w' ⟨rfl, rfl⟩)
          go_roundg g
          case measure => omega
          case rel => exact ⟨k + 1, by go_num, rfl, by omega, by omega, HG.out⟩
        | false =>
          rw [hl2] at cL
          cases hd : digZ (R : Nat) with
          | true =>
            rw [hd] at cD
            have HG := Lib.hid (HO.out (by simp [goodZ, hd, hk0]))
            go_wp2_with (first | (go_at_call 159; refine (cD).mono ?_; rintro e w' ⟨rfl, rfl⟩) | (go_at_call 158; refine (cL).mono ?_; rintro e w' ⟨rfl, rfl⟩))
            go_roundg g
            case measure => omega
            case rel => exact ⟨k + 1, by go_num, rfl, by omega, by omega, HG.out⟩
          | false =>
            rw [hd] at cD
            by_cases h95 : ((R : Nat) : Int) = 95
            · have HG := Lib.hid (HO.out (by simp only [goodZ, hl2, hd, h95]; simp [hk0]))
              have hbn : (((R : Nat) : Int) != 95) = false := by simp [h95]
              clear h95
              go_wp2_with (first | (go_at_call 159; refine (cD).mono ?_; rintro e w' ⟨rfl, rfl⟩) | (go_at_call 158; refine (cL).mono ?_; rintro e w' ⟨rfl, rfl⟩))
              go_roundg g
              case measure => omega
              case rel => exact ⟨k + 1, by go_num, rfl, by omega, by omega, HG.out⟩
            · have HG := Lib.hid (HB.out (by simp only [goodZ, hl2, hd, decide_eq_false h95]; simp))
              have hbn : (((R : Nat) : Int) != 95) = true := by simpa using h95
              go_wp2_with (first | (go_at_call 159; refine (cD).mono ?_; rintro e w' ⟨rfl, rfl⟩) | (go_at_call 158; refine (cL).mono ?_; rintro e w' ⟨rfl, rfl⟩))
              go_ret
              exact ⟨by rw [HG.out]; rfl, rfl⟩
      · go_wp2
        go_ret
        exact ⟨by rw [← HB.out, nameB_end s gk k hp]; rfl, rfl⟩

end Go.Proofs.YtlhgddgoblliaaaGreatDoor

namespace Go.Proofs.YtlhgddgoblliaaaGreatDoor
open Go.RowKit Go.Sym

def whenS (b : Bool) (e : Int) : Int := if b then e else 0
def withinS (n lo hi : Int) : Int := if n < lo ∨ n > hi then 3 else 0
def firstS : List Int → Int
  | [] => 0
  | e :: l => if e = 0 then firstS l else e
theorem rfirst_drop (l : List Int) (k : Nat) (hk : k < l.length) (h : l[k] = 0) : firstS (l.drop k) = firstS (l.drop (k+1)) := by
  rw [List.drop_eq_getElem_cons hk]; simp [firstS, h]
def When_i (b : Bool) (e : Int) : Inst := { f := 65, hin := [], args := [bl b, i64 e], hout := [], ret := i64 (whenS b e), σ := [] }
theorem When_s (b : Bool) (e : Int) : (When_i b e).ok Tryz.prog := by
  unfold When_i Inst.ok; dsimp only; refine spec_of_body (tys := tys) 0 Tryz.func65 (by kernel_rfl) rfl tys_ok rfl (Nat.le_of_ble_eq_true rfl) (fun _ _ h => (by cases h)) fun F hP hm hC hrd => ?_; conv => whnf
  repeat first | refine lwp_seq fun K hK => ?_ | ((with_reducible refine gA ?_); apply_assumption -exfalso -symm) | refine gB ?_ | refine gC ?_ | refine gD ?_ | refine gE ?_ | refine gF rfl ?_ | refine gG rfl ?_ | refine gH ?_ | refine gI ?_ | refine gJ ?_ | refine gK ?_ | refine gL ?_ | refine gM hC rfl ⟨⟩ ?_ | refine gM hC rfl (by exact sd) ?_
  (refine lwp_cond hC rfl (by first | exact ⟨⟩ | exact sd) (fun hb => ?_) (fun hb => ?_) <;> (try simp only [decide_eq_true_eq, decide_eq_false_iff_not, Bool.not_eq_true', Bool.not_eq_false', ne_eq, Decidable.not_not] at hb))
  · repeat first | refine lwp_seq fun K hK => ?_ | ((with_reducible refine gA ?_); apply_assumption -exfalso -symm) | refine gB ?_ | refine gC ?_ | refine gD ?_ | refine gE ?_ | refine gF rfl ?_ | refine gG rfl ?_ | refine gH ?_ | refine gI ?_ | refine gJ ?_ | refine gK ?_ | refine gL ?_ | refine gM hC rfl ⟨⟩ ?_ | refine gM hC rfl (by exact sd) ?_
    (refine end_intro (by first | exact .inr rfl | exact .inl rfl) [] rfl ?_)
    subst hb; exact ⟨rfl, trivial⟩
  · repeat first | refine lwp_seq fun K hK => ?_ | ((with_reducible refine gA ?_); apply_assumption -exfalso -symm) | refine gB ?_ | refine gC ?_ | refine gD ?_ | refine gE ?_ | refine gF rfl ?_ | refine gG rfl ?_ | refine gH ?_ | refine gI ?_ | refine gJ ?_ | refine gK ?_ | refine gL ?_ | refine gM hC rfl ⟨⟩ ?_ | refine gM hC rfl (by exact sd) ?_
    (refine end_intro (by first | exact .inr rfl | exact .inl rfl) [] rfl ?_)
    subst hb; exact ⟨rfl, trivial⟩
def CheckRange_i (n lo hi : Int) : Inst := { f := 68, hin := [], args := [i64 n, i64 lo, i64 hi], hout := [], ret := i64 (withinS n lo hi), σ := [] }
theorem CheckRange_s (n lo hi : Int) : (CheckRange_i n lo hi).ok Tryz.prog := by
  have e : withinS n lo hi = whenS (decide (n < lo) || decide (hi < n)) 3 := by
    unfold withinS whenS
    by_cases h : n < lo <;> by_cases h' : hi < n <;> simp [h, h']
  unfold CheckRange_i; rw [e]
  unfold Inst.ok; dsimp only; refine spec_of_body (tys := tys) 0 Tryz.func68 (by kernel_rfl) rfl tys_ok rfl (Nat.le_of_ble_eq_true rfl) (fun _ _ h => (by cases h)) fun F hP hm hC hrd => ?_; conv => whnf
  repeat first | refine lwp_seq fun K hK => ?_ | ((with_reducible refine gA ?_); apply_assumption -exfalso -symm) | refine gB ?_ | refine gC ?_ | refine gD ?_ | refine gE ?_ | refine gF rfl ?_ | refine gG rfl ?_ | refine gH ?_ | refine gI ?_ | refine gJ ?_ | refine gK ?_ | refine gL ?_ | refine gM hC rfl ⟨⟩ ?_ | refine gM hC rfl (by exact sd) ?_
  (refine lwp_region hC ⟨[], [], [(8, When_i (decide (n < lo) || decide (hi < n)) 3)]⟩ (told1 _ (by rw [hP]; exact (calls_cons (When_s _ _) calls_nil))) rfl ?_ ?_; rotate_left 1)
  · repeat first | refine lwp_seq fun K hK => ?_ | ((with_reducible refine gA ?_); apply_assumption -exfalso -symm) | refine gB ?_ | refine gC ?_ | refine gD ?_ | refine gE ?_ | refine gF rfl ?_ | refine gG rfl ?_ | refine gH ?_ | refine gI ?_ | refine gJ ?_ | refine gK ?_ | refine gL ?_ | refine gM hC rfl ⟨⟩ ?_ | refine gM hC rfl (by exact sd) ?_
    (refine end_intro (by first | exact .inr rfl | exact .inl rfl) [] rfl ?_)
    exact ⟨rfl, trivial⟩
  · exact sd
def First_i (l : List Int) (σ : Ren) : Inst := { f := 13, hin := [(0, .ro l.length 1 (.ints .i64 l))], args := [.sl 0 l.length], hout := [], ret := i64 (firstS l), σ := σ }
theorem First_s (l : List Int) (σ : Ren) (hl : l.length ≤ 1048576) : (First_i l σ).ok Tryz.prog := by
  unfold First_i Inst.ok; dsimp only; refine spec_of_body (tys := tys) 1 Tryz.func13 (by kernel_rfl) rfl tys_ok rfl (Nat.le_of_ble_eq_true rfl) (fun _ _ h => (by cases h)) fun F hP hm hC hrd => ?_; conv => whnf
  repeat first | refine lwp_seq fun K hK => ?_ | ((with_reducible refine gA ?_); apply_assumption -exfalso -symm) | refine gB ?_ | refine gC ?_ | refine gD ?_ | refine gE ?_ | refine gF rfl ?_ | refine gG rfl ?_ | refine gH ?_ | refine gI ?_ | refine gJ ?_ | refine gK ?_ | refine gL ?_ | refine gM hC rfl ⟨⟩ ?_ | refine gM hC rfl (by exact sd) ?_
  refine lwp_loop (fun k : Nat => ⟨[(3, i64 k), (0, .sl 0 l.length)], [(0, .ro l.length 1 (.ints .i64 l))], 1⟩) (fun k => k ≤ l.length ∧ firstS l = firstS (l.drop k)) (fun k => l.length - k) 0 ⟨?_, sub_intro hm [(0, some 0)] rfl ?_⟩ ?_
  · exact ⟨Nat.zero_le _, rfl⟩
  · exact sd
  · rintro k ⟨hk, hf⟩
    repeat first | refine lwp_seq fun K hK => ?_ | ((with_reducible refine gA ?_); apply_assumption -exfalso -symm) | refine gB ?_ | refine gC ?_ | refine gD ?_ | refine gE ?_ | refine gF rfl ?_ | refine gG rfl ?_ | refine gH ?_ | refine gI ?_ | refine gJ ?_ | refine gK ?_ | refine gL ?_ | refine gM hC rfl ⟨⟩ ?_ | refine gM hC rfl (by exact sd) ?_
    (refine lwp_cond hC rfl (by first | exact ⟨⟩ | exact sd) (fun hb => ?_) (fun hb => ?_) <;> (try simp only [decide_eq_true_eq, decide_eq_false_iff_not, Bool.not_eq_true', Bool.not_eq_false', ne_eq, Decidable.not_not] at hb))
    · repeat first | refine lwp_seq fun K hK => ?_ | ((with_reducible refine gA ?_); apply_assumption -exfalso -symm) | refine gB ?_ | refine gC ?_ | refine gD ?_ | refine gE ?_ | refine gF rfl ?_ | refine gG rfl ?_ | refine gH ?_ | refine gI ?_ | refine gJ ?_ | refine gK ?_ | refine gL ?_ | refine gM hC rfl ⟨⟩ ?_ | refine gM hC rfl (by exact sd) ?_
      (refine lwp_cond hC rfl (by first | exact ⟨⟩ | exact sd) (fun hb => ?_) (fun hb => ?_) <;> (try simp only [decide_eq_true_eq, decide_eq_false_iff_not, Bool.not_eq_true', Bool.not_eq_false', ne_eq, Decidable.not_not] at hb))
      · repeat first | refine lwp_seq fun K hK => ?_ | ((with_reducible refine gA ?_); apply_assumption -exfalso -symm) | refine gB ?_ | refine gC ?_ | refine gD ?_ | refine gE ?_ | refine gF rfl ?_ | refine gG rfl ?_ | refine gH ?_ | refine gI ?_ | refine gJ ?_ | refine gK ?_ | refine gL ?_ | refine gM hC rfl ⟨⟩ ?_ | refine gM hC rfl (by exact sd) ?_
        (refine end_intro (by first | exact .inr rfl | exact .inl rfl) [] rfl ?_)
        refine ⟨?_, trivial⟩
        simp only [Int.toNat_natCast] at hb ⊢
        rw [hf, List.drop_eq_getElem_cons (by omega)]
        simp only [List.getD_eq_getElem?_getD, List.getElem?_eq_getElem (show k < l.length by omega), Option.getD_some] at hb ⊢
        simp [firstS, hb]
      · repeat first | refine lwp_seq fun K hK => ?_ | ((with_reducible refine gA ?_); apply_assumption -exfalso -symm) | refine gB ?_ | refine gC ?_ | refine gD ?_ | refine gE ?_ | refine gF rfl ?_ | refine gG rfl ?_ | refine gH ?_ | refine gI ?_ | refine gJ ?_ | refine gK ?_ | refine gL ?_ | refine gM hC rfl ⟨⟩ ?_ | refine gM hC rfl (by exact sd) ?_
        refine gA ⟨k + 1, ?_, ?_, sub_intro hm [(0, some 0)] rfl ?_⟩
        · refine ⟨by omega, ?_⟩
          rw [hf]
          simp only [Int.toNat_natCast, List.getD_eq_getElem?_getD, List.getElem?_eq_getElem (show k < l.length by omega), Option.getD_some] at hb
          exact rfirst_drop l k (by omega) hb
        · omega
        · exact sd
    · repeat first | refine lwp_seq fun K hK => ?_ | ((with_reducible refine gA ?_); apply_assumption -exfalso -symm) | refine gB ?_ | refine gC ?_ | refine gD ?_ | refine gE ?_ | refine gF rfl ?_ | refine gG rfl ?_ | refine gH ?_ | refine gI ?_ | refine gJ ?_ | refine gK ?_ | refine gL ?_ | refine gM hC rfl ⟨⟩ ?_ | refine gM hC rfl (by exact sd) ?_
      (refine end_intro (by first | exact .inr rfl | exact .inl rfl) [] rfl ?_)
      refine ⟨?_, trivial⟩
      rw [hf, List.drop_of_length_le (by omega)]
      rfl
def SName_i (s : ByteArray) : Inst := { f := 71, hin := [], args := [.lit (.string s)], hout := [], ret := bl (nameOk s), σ := [] }
theorem SName_s (s : ByteArray) : (SName_i s).ok Tryz.prog := by
  refine ⟨⟨_, Tryz.func71, rfl⟩, fun ρ w vs _ _ _ hd => ?_⟩
  simp only [SName_i, AV.denL, AV.den, listO, Option.some.injEq] at hd
  subst hd
  refine (IsName_c s w).mono ?_
  rintro e w' ⟨rfl, hb⟩
  exact post_of_lit hb
def RName_i (s : ByteArray) : Inst := { f := 127, hin := [], args := [.lit (.string s)], hout := [], ret := bl (nameOk s), σ := [] }
theorem RName_s (s : ByteArray) (hs : s.size ≤ 1000000) : (RName_i s).ok Tryz.prog := by
  refine ⟨⟨_, Tryz.func127, rfl⟩, fun ρ w vs _ _ _ hd => ?_⟩
  simp only [RName_i, AV.denL, AV.den, listO, Option.some.injEq] at hd
  subst hd
  refine (RIsName_c s w hs).mono ?_
  rintro e w' ⟨rfl, hb⟩
  exact post_of_lit (by subst hb; exact Below.refl _ _)

def CheckName_i (s : ByteArray) : Inst := { f := 64, hin := [], args := [.lit (.string s)], hout := [], ret := i64 (whenS (!nameOk s) 8), σ := [] }
theorem CheckName_s (s : ByteArray) (hs : s.size ≤ 1000000) : (CheckName_i s).ok Tryz.prog := by
  unfold CheckName_i Inst.ok; dsimp only; refine spec_of_body (tys := tys) 0 Tryz.func64 (by kernel_rfl) rfl tys_ok rfl (Nat.le_of_ble_eq_true rfl) (fun _ _ h => (by cases h)) fun F hP hm hC hrd => ?_; conv => whnf
  repeat first | refine lwp_seq fun K hK => ?_ | ((with_reducible refine gA ?_); apply_assumption -exfalso -symm) | refine gB ?_ | refine gC ?_ | refine gD ?_ | refine gE ?_ | refine gF rfl ?_ | refine gG rfl ?_ | refine gH ?_ | refine gI ?_ | refine gJ ?_ | refine gK ?_ | refine gL ?_ | refine gM hC rfl ⟨⟩ ?_ | refine gM hC rfl (by exact sd) ?_
  (refine lwp_region hC ⟨[], [], [(1, RName_i s), (3, When_i (!nameOk s) 8)]⟩ (told1 _ (by rw [hP]; exact (calls_cons (RName_s s hs) (calls_cons (When_s _ _) calls_nil)))) rfl ?_ ?_; rotate_left 1)
  · repeat first | refine lwp_seq fun K hK => ?_ | ((with_reducible refine gA ?_); apply_assumption -exfalso -symm) | refine gB ?_ | refine gC ?_ | refine gD ?_ | refine gE ?_ | refine gF rfl ?_ | refine gG rfl ?_ | refine gH ?_ | refine gI ?_ | refine gJ ?_ | refine gK ?_ | refine gL ?_ | refine gM hC rfl ⟨⟩ ?_ | refine gM hC rfl (by exact sd) ?_
    (refine end_intro (by first | exact .inr rfl | exact .inl rfl) [] rfl ?_)
    exact ⟨rfl, trivial⟩
  · exact sd

end Go.Proofs.YtlhgddgoblliaaaGreatDoor

namespace Go.Proofs.YtlhgddgoblliaaaGreatDoor
open Go.RowKit Go.Sym

theorem take_snoc {α : Type} (l : List α) (d : α) (k : Nat) (h : k < l.length) : l.take (k + 1) = l.take k ++ [l.getD k d] := by
  rw [List.take_add_one, List.getD_eq_getElem?_getD, List.getElem?_eq_getElem h]; rfl
theorem firstS_cons (e : Int) (l : List Int) : firstS (e :: l) = 0 ↔ e = 0 ∧ firstS l = 0 := by
  simp only [firstS]
  split
  · rename_i h; simp [h]
  · rename_i h; simp [h]
theorem whenS_zero {b : Bool} {e : Int} (he : e ≠ 0) : whenS b e = 0 ↔ b = false := by
  unfold whenS; cases b <;> simp [he]
theorem withinS_zero {n lo hi : Int} : withinS n lo hi = 0 ↔ lo ≤ n ∧ n ≤ hi := by
  unfold withinS; split <;> omega

end Go.Proofs.YtlhgddgoblliaaaGreatDoor
