/- Plain: a text of digits, byte by byte and rune by rune. -/
import Derived.Test.YtfmckibiblhakaaGreatDoorLockQ
import Derived.Lib.DecodeN
set_option linter.unusedSimpArgs false
set_option linter.unusedVariables false
namespace Go.Proofs.YtfmckibiblhakaaGreatDoor
open Go.RowKit

/-- A rune that is no digit. -/
def noDg (r : Nat) : Bool := decide (r < 48) || decide (57 < r)
theorem decode_low (s : ByteArray) (i : Nat) (h : (s.get! i).toNat < 128) : Utf8.decode s i = ((s.get! i).toNat, 1) := by
  rw [Lib.decode_at]
  unfold Lib.decodeN
  rw [if_pos h]
theorem decode_high (s : ByteArray) (i : Nat) (h : ¬ (s.get! i).toNat < 128) : 128 ≤ (Utf8.decode s i).1 := by
  rw [Lib.decode_at]
  unfold Lib.decodeN
  rw [if_neg h]
  repeat' split
  all_goals first | omega | (simp only; omega)
theorem bs_get_bang (l : List UInt8) (i : Nat) (h : i < l.length) : (bs l).get! i = l[i] := by
  show l.toArray[i]! = l[i]
  simp [h]
/-- Where the first rune stands that is no digit. -/
theorem decode_dg (l : List UInt8) (i : Nat) (h : i < l.length) : noDg (Utf8.decode (bs l) i).1 = !(isDg l[i]) ∧ (isDg l[i] = true → (Utf8.decode (bs l) i).2 = 1) := by
  have e := bs_get_bang l i h
  by_cases hb : l[i].toNat < 128
  · have hd := decode_low (bs l) i (by rw [e]; exact hb)
    rw [hd, e]
    refine ⟨?_, fun _ => rfl⟩
    unfold noDg isDg
    rw [Bool.eq_iff_iff]
    simp only [Bool.or_eq_true, decide_eq_true_eq, Bool.not_eq_true', Bool.and_eq_false_iff, decide_eq_false_iff_not]
    omega
  · have hd := decode_high (bs l) i (by rw [e]; exact hb)
    have h1 : isDg l[i] = false := by
      unfold isDg
      rw [Bool.and_eq_false_iff]
      right
      simp
      omega
    rw [h1]
    refine ⟨?_, by simp⟩
    unfold noDg
    simp
    right
    omega
end Go.Proofs.YtfmckibiblhakaaGreatDoor
