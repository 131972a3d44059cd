/- What somebody can make, plain: what the laws on it ask. -/
import Derived.Test.YtaaiaahkakkleaaGreatDoorDedK
import Derived.Test.YtaaiaahkakkleaaGreatDoorDedS
import Derived.Test.YtaaiaahkakkleaaGreatDoorDedW
set_option linter.unusedSimpArgs false
set_option linter.unusedVariables false
namespace Go.Proofs.YtaaiaahkakkleaaGreatDoor
open Go.RowKit
def heardP (l : List (List UInt8)) (t : List UInt8) : Bool := right t && decide (t ∈ l)
theorem heardP_nil : heardP [] = fun _ => false := by funext t; simp [heardP]
theorem heardP_right (l : List (List UInt8)) : ∀ t, heardP l t = true → right t = true := fun t h => by
 unfold heardP at h
 rw [Bool.and_eq_true] at h
 exact h.1
theorem heardP_add (l : List (List UInt8)) (x : List UInt8) (n : Nat) (hn : n < 1024) : learnH (heardP l) n x = heardP (l ++ [x]) := by
 unfold learnH
 funext t
 by_cases hr : right x = true
 · by_cases hl : x ∈ l
   · have h1 : heardP l x = true := by simp [heardP, hr, hl]
     rw [if_neg (by rw [h1]; simp)]
     unfold heardP
     by_cases e : t = x
     · subst e; simp [hl]
     · simp [e]
   · have h1 : heardP l x = false := by simp [heardP, hl]
     rw [if_pos ⟨hr, h1, hn⟩]
     unfold ins heardP
     by_cases e : t = x
     · subst e; simp [hr]
     · simp [e]
 · rw [if_neg (fun h => hr h.1)]
   unfold heardP
   by_cases e : t = x
   · subst e; simp [hr]
   · simp [e]
theorem learnN_le (H : List UInt8 → Bool) (n : Nat) (t : List UInt8) : n ≤ learnN H n t ∧ learnN H n t ≤ n + 1 ∧ (n ≤ 1024 → learnN H n t ≤ 1024) := by
 unfold learnN
 split
 · rename_i h; exact ⟨by omega, by omega, fun _ => by omega⟩
 · exact ⟨by omega, by omega, fun h => h⟩
/-! names -/
theorem nameL_len {n : Nat} (h : n ≤ 9223372036854775807) : (nameL n).length ≤ 25 := (q_name n h).2
theorem nameL_right {n : Nat} (h : n ≤ 9223372036854775807) : right (nameL n) = true ∧ head (nameL n) = 110 := by
 refine ⟨?_, rfl⟩
 refine rtD_right (d := 1) om_ (rtD_name n 0 h) ?_
 have := nameL_len h
 omega
theorem nameL_key {n : Nat} (h : n ≤ 9223372036854775807) : pubT (nameL n) = (80 :: nameL n, 0) ∧ right (80 :: nameL n) = true := by
 have hr := (nameL_right h).1
 have hk : keyT (nameL n) = 80 :: nameL n := keyT_plain (show (110 : UInt8).toNat ≠ 86 by decide) (show (110 : UInt8).toNat ≠ 75 by decide)
 have hr2 : right (80 :: nameL n) = true := by
  refine rtD_right (d := 2) om_ (rtD_one 1 80 _ rfl (by simp [fitsB, nameL, head]) (rtD_name n 0 h)) ?_
  have := nameL_len h
  simp only [List.length_cons]
  omega
 refine ⟨?_, hr2⟩
 unfold pubT made
 rw [if_pos hr, hk, if_pos hr2]
theorem stands_self {t : List UInt8} (h : right t = true) : stands t t = true := by
 obtain ⟨x, hx⟩ := right_some h
 rw [stands_eq t hx]; simp
end Go.Proofs.YtaaiaahkakkleaaGreatDoor
