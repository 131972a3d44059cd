/- The reference's reader of terms: its small functions. -/
import Derived.Test.YtchbhainmalbbaaDoorRefN
namespace Go.Proofs.YtchbhainmalbbaaDoor
open Go.RowKit

def arV : Option Nat → Int
  | some n => n
  | none => -1

set_option maxHeartbeats 400000 in
theorem refParts (c : UInt8) (w : World) :
    Calls Tryd.prog 112 #[.int .u8 c.toNat] w fun e w' => e = .returned (.int .i64 (arV (arity c))) ∧ w = w' := by
  have H : Hid (arV (arity c) = if c.toNat = 80 ∨ c.toNat = 72 then 1 else if c.toNat = 83 ∨ c.toNat = 66 ∨ c.toNat = 88 ∨ c.toNat = 68 ∨ c.toNat = 86 ∨ c.toNat = 87 ∨ c.toNat = 75 ∨ c.toNat = 76 then 2 else -1) := by
    show arV (arity c) = _
    simp only [arity, ← UInt8.toNat_inj, UInt8.reduceToNat]
    split
    · rfl
    · split <;> rfl
  go_enter Tryd.func112, Tryd.ntmps112
  go_wp2
  all_goals
    go_ret
    refine ⟨?_, rfl⟩
    rw [H.out]
    congr 2
    repeat' split
    all_goals first | rfl | (exfalso; simp only [beq_iff_eq, beq_eq_false_iff_ne, ne_eq] at *; omega)

theorem pubC_nat (c : UInt8) : pubC c = decide (c.toNat = 80 ∨ c.toNat = 87 ∨ c.toNat = 76) := by
  unfold pubC
  rw [Bool.eq_iff_iff]
  simp [← UInt8.toNat_inj]
  omega

set_option maxHeartbeats 400000 in
theorem refPublic (c : UInt8) (w : World) :
    Calls Tryd.prog 86 #[.int .u8 c.toNat] w fun e w' => e = .returned (.bool (pubC c)) ∧ w = w' := by
  have H := Lib.hid (pubC_nat c)
  go_enter Tryd.func86, Tryd.ntmps86
  go_wp2
  all_goals
    go_ret
    refine ⟨?_, rfl⟩
    rw [H.out]
    (refine congrArg (fun b : Bool => Ending.returned (.bool b)) ?_; rw [Bool.eq_iff_iff]; simp only [beq_iff_eq, beq_eq_false_iff_ne, bne_iff_ne, bne_eq_false_iff_eq, ne_eq, Bool.or_eq_true, Bool.and_eq_true, Bool.not_eq_true', decide_eq_true_eq, decide_eq_false_iff_not, Bool.or_eq_false_iff, Bool.and_eq_false_iff, eq_self, true_iff, iff_true, Bool.false_eq_true, Bool.true_eq_false, false_iff, iff_false] at *; omega)

set_option maxHeartbeats 400000 in
theorem refNone (w : World) :
    Calls Tryd.prog 110 #[] w fun e w' => e = .returned (.agg #[.int .i64 (-1), .int .i64 0, .int .u64 0, .int .i64 0, .slice none 0 0]) ∧ Below w.heap.size w w' := by
  go_enter Tryd.func110, Tryd.ntmps110
  go_wp2
  refine bodyPost_ret (v := .agg #[.int .i64 (-1), .int .i64 0, .int .u64 0, .int .i64 0, .slice none 0 0]) (by simp [results, Tryd.results110, go_sem]) rfl ⟨rfl, ?_⟩
  (repeat' (first | with_reducible exact Below.refl _ _ | with_reducible assumption | with_reducible refine below_alloc ?_ ?_ _ | with_reducible refine Below.setCell ?_ ?_ _ | with_reducible refine Below.drew ?_ | with_reducible refine below_drewN ?_ _ | with_reducible refine below_step (by assumption) ?_ ?_ | (with_reducible refine Below.trans ?_ (Below.mono (by assumption) ?_)) | exact Nat.le_refl _ | (simp; done) | (simp; omega) | omega))

end Go.Proofs.YtchbhainmalbbaaDoor
