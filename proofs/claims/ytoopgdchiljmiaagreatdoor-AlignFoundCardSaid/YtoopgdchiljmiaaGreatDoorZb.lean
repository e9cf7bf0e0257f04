/- Names: a string of runes is a name exactly if its bytes are ones of a name. No program in sight. -/
import Derived.Lib.DecodeN
import Derived.Lib.OthersKept
import Derived.Laws.RangeString
set_option linter.unusedVariables false
set_option linter.unusedSimpArgs false
namespace Go.Proofs.YtoopgdchiljmiaaGreatDoor

def letZ (c : Int) : Bool := (decide (97 ≤ c) && decide (c ≤ 122)) || (decide (65 ≤ c) && decide (c ≤ 90))
def digZ (c : Int) : Bool := decide (48 ≤ c) && decide (c ≤ 57)
/-- A character that may stand at a place of a name. -/
def goodZ (i : Nat) (c : Int) : Bool := letZ c || (decide (i ≠ 0) && (digZ c || decide (c = 95)))
/-- The runes of a string from a place on may. -/
def nameR (s : ByteArray) : Nat → Nat → Bool
  | 0, _ => true
  | g + 1, pos => if pos < s.size then (if goodZ pos ((Utf8.decode s pos).1 : Nat) then nameR s g (pos + (Utf8.decode s pos).2) else false) else true
/-- Its bytes may. -/
def nameB (s : ByteArray) : Nat → Nat → Bool
  | 0, _ => true
  | g + 1, pos => if h : pos < s.size then (if goodZ pos ((s[pos]'h).toNat : Nat) then nameB s g (pos + 1) else false) else true
def nameOk (s : ByteArray) : Bool := nameB s s.size 0 && (decide (0 < s.size) && decide (s.size ≤ 24))

theorem good_lt {i c : Nat} (h : goodZ i (c : Nat) = true) : c < 128 := by
  unfold goodZ letZ digZ at h
  simp only [Bool.or_eq_true, Bool.and_eq_true, decide_eq_true_eq] at h
  omega
theorem decodeN_high (n b0 b1 b2 b3 : Nat) (h : 128 ≤ b0) : 128 ≤ (Lib.decodeN n b0 b1 b2 b3).1 := by
  unfold Lib.decodeN
  repeat' split
  all_goals (simp only; omega)
theorem width_ge (s : ByteArray) (pos : Nat) : 1 ≤ (Utf8.decode s pos).2 := by
  rw [Lib.decode_at]
  unfold Lib.decodeN
  repeat' split
  all_goals (simp only; omega)
theorem rune_lt (s : ByteArray) (pos : Nat) : (Utf8.decode s pos).1 < 2000000 := by
  rw [Lib.decode_at]
  have h0 := UInt8.toNat_lt (s.get! pos)
  unfold Lib.decodeN
  repeat' split
  all_goals (simp only; omega)
theorem decode_high (s : ByteArray) (pos : Nat) (h : pos < s.size) (ha : ¬ (s[pos]'h).toNat < 128) : 128 ≤ (Utf8.decode s pos).1 := by
  rw [Lib.decode_at]
  refine decodeN_high _ _ _ _ _ ?_
  have e : s.get! pos = s[pos]'h := by
    simp [ByteArray.get!, getElem!_pos, h]
    rfl
  rw [e]; omega
theorem nameR_eq (s : ByteArray) : ∀ g pos, nameR s g pos = nameB s g pos
  | 0, _ => rfl
  | g + 1, pos => by
    rw [nameR, nameB]
    by_cases h : pos < s.size
    · rw [if_pos h, dif_pos h]
      by_cases ha : (s[pos]'h).toNat < 128
      · rw [decode_ascii s pos h ha]
        simp only [nameR_eq s g (pos + 1)]
      · have h1 := decode_high s pos h ha
        have e1 : goodZ pos ((Utf8.decode s pos).1 : Nat) = false := by
          cases e : goodZ pos ((Utf8.decode s pos).1 : Nat) with
          | false => rfl
          | true => exact absurd (good_lt e) (by omega)
        have e2 : goodZ pos ((s[pos]'h).toNat : Nat) = false := by
          cases e : goodZ pos ((s[pos]'h).toNat : Nat) with
          | false => rfl
          | true => exact absurd (good_lt e) ha
        rw [e1, e2]
        rfl
    · rw [if_neg h, dif_neg h]
theorem nameR_end (s : ByteArray) (g pos : Nat) (h : ¬ pos < s.size) : nameR s g pos = true := by
  cases g with
  | zero => rfl
  | succ g => rw [nameR, if_neg h]
theorem nameB_end (s : ByteArray) (g pos : Nat) (h : ¬ pos < s.size) : nameB s g pos = true := by
  cases g with
  | zero => rfl
  | succ g => rw [nameB, dif_neg h]

end Go.Proofs.YtoopgdchiljmiaaGreatDoor
